/- The walks of crc's Sum and More. Conditions: none. -/
import Derived.Test.YtdldclakkplliaaCrc
import Derived.Test.YtdldclakkplliaaUse
namespace Go.Proofs.Ytdldclakkplliaa
set_option linter.unusedVariables false
set_option linter.unusedSimpArgs false
open Go.RowKit

theorem Tn_snoc (t r : Nat) : Crc.T (Crc.Tn t r) = Crc.Tn (t + 1) r := by
  rw [Crc.Tn_add]; rfl
theorem byte_val (q : Nat) (c : UInt8) (h : q < 2 ^ 32) : bits .xor .u32 (q : Int) ((c.toNat : Int) % 4294967296) = ((q ^^^ c.toNat : Nat) : Int) := by
  have := c.toNat_lt
  rw [show ((c.toNat : Int) % 4294967296) = (c.toNat : Int) from by omega, u32_xor_nat _ _ (by omega) (by omega)]
theorem u32_eq {a b : Int} (h : a = b) : Value.int .u32 a = Value.int .u32 b := by rw [h]

theorem turn_val (q : Nat) (h : q < 2 ^ 32) : bits .xor .u32 ((q : Int) / 2) (3988292384 * bits .and .u32 (q : Int) 1 % 4294967296) = ((Crc.T q : Nat) : Int) := by
  have h1 : bits .and .u32 (q : Int) 1 = ((q % 2 : Nat) : Int) := by
    have := u32_and_nat q 1 h (by decide)
    rw [nat_mask1] at this
    exact this
  rw [h1, show ((q : Int) / 2) = ((q / 2 : Nat) : Int) from by omega]
  unfold Crc.T
  rw [Nat.shiftRight_eq_div_pow]
  by_cases hq : q % 2 = 1
  · rw [hq, if_pos rfl]
    exact u32_xor_nat _ _ (by omega) (by decide)
  · have h0 : q % 2 = 0 := by omega
    rw [h0, if_neg (by decide)]
    exact u32_xor_nat _ 0 (by omega) (by decide)
theorem reg_take (r k : Nat) (bs : List UInt8) (h : k < bs.length) : Crc.Tn 8 (Crc.reg r (bs.take k) ^^^ (bs.getD k 0).toNat) = Crc.reg r (bs.take (k + 1)) := by
  rw [List.take_succ_eq_append_getElem h, Crc.reg_snoc]
  simp [Crc.B, List.getD_eq_getElem?_getD, List.getElem?_eq_getElem h]

set_option maxHeartbeats 400000 in
theorem more_any (s : Nat) (hs : s < 2 ^ 32) (A : Option Addr) (c : Nat) (bs : List UInt8) (w : World) (hr : RB w A bs) :
    Calls Try.prog 76 #[.int .u32 (s : Int), .slice A bs.length c] w fun e w' => e = .returned (.int .u32 (Crc.more s bs : Nat)) ∧ w = w' := by
  have hl := hr.len
  have HR := Lib.hid hr
  clear hr
  have HS := Lib.hid hs
  clear hs
  go_enter Try.func76, Try.ntmps76
  go_wp2
  go_loop [0, 11] (fun r i => ∃ (k : Nat) (q : Nat), k ≤ bs.length ∧ i = .int .i64 k ∧ r = .int .u32 (q : Int) ∧ Hid (q = Crc.reg (s ^^^ 4294967295) (bs.take k))) (fun _ i => bs.length - (intOf i).toNat)
  case atStart => exact ⟨0, _, Nat.zero_le _, rfl, u32_eq (u32_xor_nat _ _ HS.out (by decide)), Lib.hid rfl⟩
  case round =>
    obtain ⟨k, q, hk, rfl, rfl, HQ⟩ := hrel
    have HQ2 : Hid (q < 2 ^ 32) := by rw [HQ.out]; exact Crc.reg_lt (Crc.lt_of_xor HS.out (by decide)) _
    by_cases hlt : k < bs.length
    · obtain ⟨ad, rfl, hcell⟩ := HR.out.at_ k hlt
      go_wp2
      go_loop [0, 19] (fun r i => ∃ (t : Nat) (q2 : Nat), t ≤ 8 ∧ i = .int .i64 t ∧ r = .int .u32 (q2 : Int) ∧ Hid (q2 = Crc.Tn t (q ^^^ (bs.getD k 0).toNat))) (fun _ i => 8 - (intOf i).toNat)
      case atStart => exact ⟨0, _, Nat.zero_le _, rfl, u32_eq (byte_val _ _ HQ2.out), Lib.hid (by simp [Crc.Tn, List.getD_eq_getElem?_getD, List.getElem?_eq_getElem hlt])⟩
      case round =>
        obtain ⟨t, q2, ht, rfl, rfl, HT⟩ := hrel
        by_cases h8 : t < 8
        · go_wp2
          go_round
          case rel => 
            refine ⟨t + 1, Crc.T q2, by omega, by go_num, ?_, Lib.hid ?_⟩
            · exact u32_eq (turn_val _ (by rw [HT.out]; exact Crc.Tn_lt _ (Crc.lt_of_xor HQ2.out (by have := (bs.getD k 0).toNat_lt; omega))))
            · rw [HT.out, Tn_snoc]
          case measure => simp [intOf]; omega
        · go_wp2
          go_round
          case rel => 
            refine ⟨k + 1, q2, by omega, by go_num, rfl, Lib.hid ?_⟩
            obtain rfl : t = 8 := by omega
            rw [HT.out]
            rw [HQ.out]
            exact reg_take _ _ _ hlt
          case measure => simp [intOf]; omega
    · go_wp2
      go_ret
      obtain rfl : k = bs.length := by omega
      exact ⟨ret_int ((u32_xor_nat q 4294967295 HQ2.out (by decide)).trans (by rw [HQ.out, List.take_length]; rfl)), rfl⟩

theorem fold_take (k : Nat) (ls : List (List UInt8)) (h : k < ls.length) : Crc.more ((ls.take k).foldl Crc.more 0) (ls.getD k []) = (ls.take (k + 1)).foldl Crc.more 0 := by
  rw [List.take_succ_eq_append_getElem h, List.foldl_append, List.getD_eq_getElem?_getD, List.getElem?_eq_getElem h]
  rfl
theorem foldl_lt (s : Nat) (h : s < 2 ^ 32) (ls : List (List UInt8)) : ls.foldl Crc.more s < 2 ^ 32 := by
  rw [Crc.foldl_more]; exact Crc.more_lt h _

set_option maxHeartbeats 400000 in
theorem sum_any (A : Option Addr) (c : Nat) (ls : List (List UInt8)) (w : World) (hr : RL w A ls) :
    Calls Try.prog 71 #[.slice A ls.length c] w fun e w' => e = .returned (.int .u32 (Crc.sum ls.flatten : Nat)) ∧ w = w' := by
  have hl := hr.len
  have HR := Lib.hid hr
  clear hr
  go_enter Try.func71, Try.ntmps71
  go_wp2
  go_loop [2, 7] (fun r i => ∃ (k : Nat) (q : Nat), k ≤ ls.length ∧ i = .int .i64 k ∧ r = .int .u32 (q : Int) ∧ Hid (q = (ls.take k).foldl Crc.more 0)) (fun _ i => ls.length - (intOf i).toNat)
  case atStart => exact ⟨0, 0, Nat.zero_le _, rfl, rfl, Lib.hid rfl⟩
  case round =>
    obtain ⟨k, q, hk, rfl, rfl, HQ⟩ := hrel
    by_cases hlt : k < ls.length
    · obtain ⟨ad, Aj, cj, b, rfl, hb, hcell, _, hbb⟩ := HR.out.at_ k hlt
      have HB := Lib.hid hbb
      have HQ2 : Hid (q < 2 ^ 32) := by rw [HQ.out]; exact foldl_lt _ (by decide) _
      have HJ := Lib.hid hb
      clear hb hbb
      go_wp2_with fail
      refine (more_any q HQ2.out _ _ _ _ HB.out).mono ?_
      rintro e w' ⟨rfl, rfl⟩
      go_wp2
      go_round
      case rel => exact ⟨k + 1, _, by omega, by go_num, rfl, Lib.hid (by rw [HQ.out, HJ.out]; exact fold_take _ _ hlt)⟩
      case measure => simp [intOf]; omega
    · go_wp2
      go_ret
      obtain rfl : k = ls.length := by omega
      exact ⟨ret_int (by rw [HQ.out, List.take_length, Crc.foldl_more]; rfl), rfl⟩
end Go.Proofs.Ytdldclakkplliaa
