/- The walks of the functions of chapter 2. Conditions: none. -/
import Derived.Test.YtigpeghfhfknjaaProg
import Derived.Test.YtigpeghfhfknjaaCrc
import Derived.Test.YtigpeghfhfknjaaBase
namespace Go.Proofs.Ytigpeghfhfknjaa
set_option linter.unusedVariables false
set_option linter.unusedSimpArgs false
open Go.RowKit

theorem Tn_snoc (t r : Nat) : Crc.T (Crc.Tn t r) = Crc.Tn (t + 1) r := by
  rw [Crc.Tn_add]; rfl
theorem byte_val (q : Nat) (c : UInt8) (h : q < 2 ^ 32) : bits .xor .u32 (q : Int) ((c.toNat : Int) % 4294967296) = ((q ^^^ c.toNat : Nat) : Int) := by
  have := c.toNat_lt
  rw [show ((c.toNat : Int) % 4294967296) = (c.toNat : Int) from by omega, u32_xor_nat _ _ (by omega) (by omega)]
theorem u32_eq {a b : Int} (h : a = b) : Value.int .u32 a = Value.int .u32 b := by rw [h]

theorem turn_val (q : Nat) (h : q < 2 ^ 32) : bits .xor .u32 ((q : Int) / 2) (3988292384 * bits .and .u32 (q : Int) 1 % 4294967296) = ((Crc.T q : Nat) : Int) := by
  have h1 : bits .and .u32 (q : Int) 1 = ((q % 2 : Nat) : Int) := by
    have := u32_and_nat q 1 h (by decide)
    rw [nat_mask1] at this
    exact this
  rw [h1, show ((q : Int) / 2) = ((q / 2 : Nat) : Int) from by omega]
  unfold Crc.T
  rw [Nat.shiftRight_eq_div_pow]
  by_cases hq : q % 2 = 1
  · rw [hq, if_pos rfl]
    exact u32_xor_nat _ _ (by omega) (by decide)
  · have h0 : q % 2 = 0 := by omega
    rw [h0, if_neg (by decide)]
    exact u32_xor_nat _ 0 (by omega) (by decide)
theorem reg_take (r k : Nat) (bs : List UInt8) (h : k < bs.length) : Crc.Tn 8 (Crc.reg r (bs.take k) ^^^ (bs.getD k 0).toNat) = Crc.reg r (bs.take (k + 1)) := by
  rw [List.take_succ_eq_append_getElem h, Crc.reg_snoc]
  simp [Crc.B, List.getD_eq_getElem?_getD, List.getElem?_eq_getElem h]

set_option maxHeartbeats 400000 in
theorem more_any (s : Nat) (hs : s < 2 ^ 32) (A : Option Addr) (c : Nat) (bs : List UInt8) (w : World) (hr : RB w A bs) :
    Calls Try.prog 9 #[.int .u32 (s : Int), .slice A bs.length c] w fun e w' => e = .returned (.int .u32 (Crc.more s bs : Nat)) ∧ w = w' := by
  have hl := hr.len
  have HR := Lib.hid hr
  clear hr
  have HS := Lib.hid hs
  clear hs
  go_enter Try.func9, Try.ntmps9
  go_wp2
  go_loop [0, 11] (fun r i => ∃ (k : Nat) (q : Nat), k ≤ bs.length ∧ i = .int .i64 k ∧ r = .int .u32 (q : Int) ∧ Hid (q = Crc.reg (s ^^^ 4294967295) (bs.take k))) (fun _ i => bs.length - (intOf i).toNat)
  case atStart => exact ⟨0, _, Nat.zero_le _, rfl, u32_eq (u32_xor_nat _ _ HS.out (by decide)), Lib.hid rfl⟩
  case round =>
    obtain ⟨k, q, hk, rfl, rfl, HQ⟩ := hrel
    have HQ2 : Hid (q < 2 ^ 32) := by rw [HQ.out]; exact Crc.reg_lt (Crc.lt_of_xor HS.out (by decide)) _
    by_cases hlt : k < bs.length
    · obtain ⟨ad, rfl, hcell⟩ := HR.out.at_ k hlt
      go_wp2
      go_loop [0, 19] (fun r i => ∃ (t : Nat) (q2 : Nat), t ≤ 8 ∧ i = .int .i64 t ∧ r = .int .u32 (q2 : Int) ∧ Hid (q2 = Crc.Tn t (q ^^^ (bs.getD k 0).toNat))) (fun _ i => 8 - (intOf i).toNat)
      case atStart => exact ⟨0, _, Nat.zero_le _, rfl, u32_eq (byte_val _ _ HQ2.out), Lib.hid (by simp [Crc.Tn, List.getD_eq_getElem?_getD, List.getElem?_eq_getElem hlt])⟩
      case round =>
        obtain ⟨t, q2, ht, rfl, rfl, HT⟩ := hrel
        by_cases h8 : t < 8
        · go_wp2
          go_round
          case rel => 
            refine ⟨t + 1, Crc.T q2, by omega, by go_num, ?_, Lib.hid ?_⟩
            · exact u32_eq (turn_val _ (by rw [HT.out]; exact Crc.Tn_lt _ (Crc.lt_of_xor HQ2.out (by have := (bs.getD k 0).toNat_lt; omega))))
            · rw [HT.out, Tn_snoc]
          case measure => simp [intOf]; omega
        · go_wp2
          go_round
          case rel => 
            refine ⟨k + 1, q2, by omega, by go_num, rfl, Lib.hid ?_⟩
            obtain rfl : t = 8 := by omega
            rw [HT.out]
            rw [HQ.out]
            exact reg_take _ _ _ hlt
          case measure => simp [intOf]; omega
    · go_wp2
      go_ret
      obtain rfl : k = bs.length := by omega
      exact ⟨ret_int ((u32_xor_nat q 4294967295 HQ2.out (by decide)).trans (by rw [HQ.out, List.take_length]; rfl)), rfl⟩

theorem fold_take (k : Nat) (ls : List (List UInt8)) (h : k < ls.length) : Crc.more ((ls.take k).foldl Crc.more 0) (ls.getD k []) = (ls.take (k + 1)).foldl Crc.more 0 := by
  rw [List.take_succ_eq_append_getElem h, List.foldl_append, List.getD_eq_getElem?_getD, List.getElem?_eq_getElem h]
  rfl
theorem foldl_lt (s : Nat) (h : s < 2 ^ 32) (ls : List (List UInt8)) : ls.foldl Crc.more s < 2 ^ 32 := by
  rw [Crc.foldl_more]; exact Crc.more_lt h _

set_option maxHeartbeats 400000 in
theorem sum_any (A : Option Addr) (c : Nat) (ls : List (List UInt8)) (w : World) (hr : RL w A ls) :
    Calls Try.prog 8 #[.slice A ls.length c] w fun e w' => e = .returned (.int .u32 (Crc.sum ls.flatten : Nat)) ∧ w = w' := by
  have hl := hr.len
  have HR := Lib.hid hr
  clear hr
  go_enter Try.func8, Try.ntmps8
  go_wp2
  go_loop [2, 7] (fun r i => ∃ (k : Nat) (q : Nat), k ≤ ls.length ∧ i = .int .i64 k ∧ r = .int .u32 (q : Int) ∧ Hid (q = (ls.take k).foldl Crc.more 0)) (fun _ i => ls.length - (intOf i).toNat)
  case atStart => exact ⟨0, 0, Nat.zero_le _, rfl, rfl, Lib.hid rfl⟩
  case round =>
    obtain ⟨k, q, hk, rfl, rfl, HQ⟩ := hrel
    by_cases hlt : k < ls.length
    · obtain ⟨ad, Aj, cj, b, rfl, hb, hcell, _, hbb⟩ := HR.out.at_ k hlt
      have HB := Lib.hid hbb
      have HQ2 : Hid (q < 2 ^ 32) := by rw [HQ.out]; exact foldl_lt _ (by decide) _
      have HJ := Lib.hid hb
      clear hb hbb
      go_wp2_with fail
      refine (more_any q HQ2.out _ _ _ _ HB.out).mono ?_
      rintro e w' ⟨rfl, rfl⟩
      go_wp2
      go_round
      case rel => exact ⟨k + 1, _, by omega, by go_num, rfl, Lib.hid (by rw [HQ.out, HJ.out]; exact fold_take _ _ hlt)⟩
      case measure => simp [intOf]; omega
    · go_wp2
      go_ret
      obtain rfl : k = ls.length := by omega
      exact ⟨ret_int (by rw [HQ.out, List.take_length, Crc.foldl_more]; rfl), rfl⟩
theorem ref_byte (q : Nat) (c : UInt8) (h : q < 2 ^ 32) : bits .xor .u32 (q : Int) ((c.toNat : Int) % 4294967296) = ((q ^^^ c.toNat : Nat) : Int) := byte_val q c h

set_option maxHeartbeats 400000 in
theorem refmore_any (s : Nat) (hs : s < 2 ^ 32) (A : Option Addr) (c : Nat) (bs : List UInt8) (w : World) (hr : RB w A bs) :
    Calls Try.prog 11 #[.int .u32 (s : Int), .slice A bs.length c] w fun e w' => e = .returned (.int .u32 (Crc.reg s bs : Nat)) ∧ w = w' := by
  have hl := hr.len
  have HR := Lib.hid hr
  clear hr
  have HS := Lib.hid hs
  clear hs
  go_enter Try.func11, Try.ntmps11
  go_wp2
  go_loop [0, 5] (fun r i => ∃ (k : Nat) (q : Nat), k ≤ bs.length ∧ i = .int .i64 k ∧ r = .int .u32 (q : Int) ∧ Hid (q = Crc.reg s (bs.take k))) (fun _ i => bs.length - (intOf i).toNat)
  case atStart => exact ⟨0, s, Nat.zero_le _, rfl, rfl, Lib.hid rfl⟩
  case round =>
    obtain ⟨k, q, hk, rfl, rfl, HQ⟩ := hrel
    have HQ2 : Hid (q < 2 ^ 32) := by rw [HQ.out]; exact Crc.reg_lt HS.out _
    by_cases hlt : k < bs.length
    · obtain ⟨ad, rfl, hcell⟩ := HR.out.at_ k hlt
      go_wp2
      go_loop [0, 6] (fun r i => ∃ (t : Nat) (q2 : Nat), t ≤ 8 ∧ i = .int .i64 t ∧ r = .int .u32 (q2 : Int) ∧ Hid (q2 = Crc.Tn t (q ^^^ (bs.getD k 0).toNat))) (fun _ i => 8 - (intOf i).toNat)
      case atStart => exact ⟨0, _, Nat.zero_le _, rfl, u32_eq (byte_val _ _ HQ2.out), Lib.hid (by simp [Crc.Tn, List.getD_eq_getElem?_getD, List.getElem?_eq_getElem hlt])⟩
      case round =>
        obtain ⟨t, q2, ht, rfl, rfl, HT⟩ := hrel
        have HT2 : Hid (q2 < 2 ^ 32) := by rw [HT.out]; exact Crc.Tn_lt _ (Crc.lt_of_xor HQ2.out (by have := (bs.getD k 0).toNat_lt; omega))
        by_cases h8 : t < 8
        · have hand : bits .and .u32 (q2 : Int) 1 = ((q2 % 2 : Nat) : Int) := by
            have := u32_and_nat q2 1 HT2.out (by decide)
            rw [nat_mask1] at this
            exact this
          have HA := Lib.hid hand
          clear hand
          by_cases hodd : q2 % 2 = 1
          · have ho : (bits .and .u32 (q2 : Int) 1 == 1) = true := by rw [HA.out, hodd]; rfl
            have HO := Lib.hid hodd
            clear hodd
            go_wp2
            go_round
            case rel =>
              refine ⟨t + 1, Crc.T q2, by omega, by go_num, u32_eq ?_, Lib.hid (by rw [HT.out, Tn_snoc])⟩
              unfold Crc.T
              rw [if_pos HO.out, Nat.shiftRight_eq_div_pow]
              have := HT2.out
              exact u32_xor_nat (q2 / 2) 3988292384 (by omega) (by decide)
            case measure => simp [intOf]; omega
          · have ho : (bits .and .u32 (q2 : Int) 1 == 1) = false := by rw [HA.out]; simp; omega
            have HO := Lib.hid hodd
            clear hodd
            go_wp2
            go_round
            case rel =>
              refine ⟨t + 1, Crc.T q2, by omega, by go_num, u32_eq ?_, Lib.hid (by rw [HT.out, Tn_snoc])⟩
              unfold Crc.T
              rw [if_neg HO.out, Nat.shiftRight_eq_div_pow, Nat.xor_zero]
              omega
            case measure => simp [intOf]; omega
        · go_wp2
          go_round
          case rel =>
            refine ⟨k + 1, q2, by omega, by go_num, rfl, Lib.hid ?_⟩
            obtain rfl : t = 8 := by omega
            rw [HT.out]
            rw [HQ.out]
            exact reg_take _ _ _ hlt
          case measure => simp [intOf]; omega
    · go_wp2
      go_ret
      obtain rfl : k = bs.length := by omega
      exact ⟨ret_int (by rw [HQ.out, List.take_length]), rfl⟩

theorem refsum_any (A : Option Addr) (c : Nat) (bs : List UInt8) (w : World) (hr : RB w A bs) :
    Calls Try.prog 10 #[.slice A bs.length c] w fun e w' => e = .returned (.int .u32 (Crc.sum bs : Nat)) ∧ w = w' := by
  have HR := Lib.hid hr
  clear hr
  go_enter Try.func10, Try.ntmps10
  go_wp2_with fail
  refine (refmore_any 4294967295 (by decide) _ _ _ _ HR.out).mono ?_
  rintro e w' ⟨rfl, rfl⟩
  go_wp2
  go_ret
  refine ⟨ret_int ?_, rfl⟩
  have := Crc.reg_lt (r := 4294967295) (by decide) bs
  rw [Crc.sum, Crc.more, Nat.xor_comm]
  exact u32_xor_nat 4294967295 _ (by decide) this

theorem tmod_round (k n : Int) (hn : 0 < n) : (k.tmod n < 0 → k.tmod n + n = k % n) ∧ (¬ k.tmod n < 0 → k.tmod n = k % n) := by
  have h := Int.tmod_eq_emod (a := k) (b := n)
  have h1 := Int.emod_nonneg k (by omega : n ≠ 0)
  have h2 := Int.emod_lt_of_pos k hn
  split at h
  · omega
  · rename_i hc
    constructor
    · omega
    · intro h3
      exfalso
      have h4 : k < 0 := by omega
      have h5 : k.tmod n ≤ 0 := by
        have e : k = -(-k) := by omega
        rw [e, Int.neg_tmod]
        have := Int.tmod_nonneg n (show 0 ≤ -k by omega)
        omega
      have : k % n = n := by omega
      omega

theorem round_any (k n : Int) (w : World) (h1 : -9223372036854775808 ≤ k) (h2 : k ≤ 9223372036854775807) (hn : 0 < n) (hn2 : n ≤ 4611686018427387904) :
    Calls Try.prog 13 #[.int .i64 k, .int .i64 n] w fun e w' => e = .returned (.int .i64 (k % n)) ∧ w = w' := by
  go_enter Try.func13, Try.ntmps13
  go_wp2
  · rename_i h
    go_ret
    have hb := Int.tmod_lt_of_pos k hn
    have hr := tmod_round k n hn
    have h1 := Int.emod_nonneg k (by omega : n ≠ 0)
    have h2 := Int.emod_lt_of_pos k hn
    exact ⟨ret_int (by rw [hr.1 h]; unfold wrap64; omega), rfl⟩
  · rename_i h
    go_ret
    have hr := tmod_round k n hn
    exact ⟨ret_int (hr.2 (by omega)), rfl⟩
theorem same_any (s : Nat) (A : Option Addr) (c : Nat) (bs : List UInt8) (w : World) (hr : RB w A bs) (hc : SV A bs.length c) :
    Calls Try.prog 12 #[.int .u32 (s : Int), .slice A bs.length c] w fun e w' => e = .returned (.bool ((s : Int) == (Crc.sum bs : Nat))) ∧ Below w.heap.size w w' := by
  have HC := Lib.hid hc
  clear hc
  have HR := Lib.hid hr
  clear hr
  go_enter Try.func12, Try.ntmps12
  go_wp2_with fail
  refine (sum_any _ _ [bs] _ (RL.one _ HR.out HC.out rfl rfl)).mono ?_
  rintro e w' ⟨rfl, rfl⟩
  go_wp2
  go_ret
  exact ⟨rfl, (Below.refl _ _).alloc (Nat.le_refl _) _⟩

/-! ### the weight of a list -/
def sat : Int → List Int → Int
  | n, [] => n
  | n, m :: ms => if n > 1099511627776 ∨ m > 1099511627776 - n then 1099511627776 else sat (n + m) ms
theorem sat_drop (n : Int) (xs : List Int) (k : Nat) (h : k < xs.length) : sat n (xs.drop k) = if n > 1099511627776 ∨ xs.getD k 0 > 1099511627776 - n then 1099511627776 else sat (n + xs.getD k 0) (xs.drop (k + 1)) := by
  rw [List.drop_eq_getElem_cons h, List.getD_eq_getElem?_getD, List.getElem?_eq_getElem h]
  rfl

set_option maxHeartbeats 400000 in
theorem asum_any (n : Int) (h0 : 0 ≤ n) (h1 : n ≤ 1099511627776) (A : Option Addr) (c : Nat) (xs : List Int) (hx : ∀ x ∈ xs, 0 ≤ x ∧ x ≤ 9223372036854775807) (w : World) (hr : RI w A xs) :
    Calls Try.prog 14 #[.int .i64 n, .slice A xs.length c] w fun e w' => e = .returned (.int .i64 (sat n xs)) ∧ w = w' := by
  have hl := hr.len
  have HR := Lib.hid hr
  clear hr
  have HX := Lib.hid hx
  clear hx
  go_enter Try.func14, Try.ntmps14
  go_wp2
  go_loop [0, 5] (fun r i => ∃ (k : Nat) (q : Int), k ≤ xs.length ∧ 0 ≤ q ∧ q ≤ 1099511627776 ∧ i = .int .i64 k ∧ r = .int .i64 q ∧ Hid (sat q (xs.drop k) = sat n xs)) (fun _ i => xs.length - (intOf i).toNat)
  case atStart => exact ⟨0, n, Nat.zero_le _, h0, h1, rfl, rfl, Lib.hid rfl⟩
  case round =>
    obtain ⟨k, q, hk, hq0, hq1, rfl, rfl, HQ⟩ := hrel
    by_cases hlt : k < xs.length
    · obtain ⟨ad, rfl, hcell⟩ := HR.out.at_ k hlt
      have hx := HX.out (xs.getD k 0) (by rw [List.getD_eq_getElem?_getD, List.getElem?_eq_getElem hlt]; simp)
      have hsd := Lib.hid (sat_drop q xs k hlt)
      obtain ⟨x, hxe⟩ : ∃ x, x = xs.getD k 0 := ⟨_, rfl⟩
      rw [← hxe] at hcell hx hsd
      have HE := Lib.hid hxe
      clear hxe
      obtain ⟨hx0, hx1⟩ := hx
      by_cases hbig : x > 1099511627776 - q
      · go_wp2
        go_ret
        exact ⟨ret_int (by rw [← HQ.out, hsd.out, if_pos (Or.inr hbig)]), rfl⟩
      · have hb2 : x + q ≤ 1099511627776 := by omega
        go_wp2
        go_round
        case rel => exact ⟨k + 1, q + x, by omega, by omega, by omega, by go_num, rfl, Lib.hid (by rw [← HQ.out, hsd.out, if_neg (by omega)])⟩
        case measure => simp [intOf]; omega
    · go_wp2
      go_ret
      obtain rfl : k = xs.length := by omega
      exact ⟨ret_int (by rw [← HQ.out, List.drop_length]; rfl), rfl⟩

/-- What a list weighs: each piece one more than its bytes. -/
def weight (ls : List (List UInt8)) : Nat := ls.flatten.length + ls.length
theorem weight_take (ls : List (List UInt8)) (k : Nat) (h : k < ls.length) : weight (ls.take (k + 1)) = weight (ls.take k) + (ls.getD k []).length + 1 := by
  rw [List.take_succ_eq_append_getElem h, List.getD_eq_getElem?_getD, List.getElem?_eq_getElem h]
  simp only [weight, List.flatten_append, List.length_append, List.flatten_cons, List.flatten_nil, List.append_nil, List.length_cons, List.length_nil, Option.getD_some]
  omega
theorem weight_le (ls : List (List UInt8)) (k : Nat) : weight (ls.take k) ≤ weight ls := by
  have e : ls = ls.take k ++ ls.drop k := (List.take_append_drop k ls).symm
  have e2 : weight ls = weight (ls.take k) + weight (ls.drop k) := by
    have : weight ls = weight (ls.take k ++ ls.drop k) := by rw [← e]
    rw [this]
    simp only [weight, List.flatten_append, List.length_append]
    omega
  omega
/-- Its answer: the weight, or more than the limit where that is more. -/
def Weighs (ls : List (List UInt8)) (r : Int) : Prop := (2000 < r ∧ 2000 < weight ls) ∨ (r ≤ 2000 ∧ r = weight ls)
def BytesPost (ls : List (List UInt8)) (w : World) (e : Ending) (w' : World) : Prop := ∃ r : Int, e = .returned (.int .i64 r) ∧ Weighs ls r ∧ Below w.heap.size w w'

set_option maxHeartbeats 400000 in
theorem bytes_any (A : Option Addr) (c : Nat) (ls : List (List UInt8)) (w : World) (hr : RL w A ls) :
    Calls Try.prog 6 #[.slice A ls.length c, .int .i64 2000] w (BytesPost ls w) := by
  have hl := hr.len
  have HR := Lib.hid hr
  clear hr
  go_enter Try.func6, Try.ntmps6
  go_wp2
  go_loopw [5, 6] (fun r i w' => ∃ (k : Nat) (q : Int), k ≤ ls.length ∧ 0 ≤ q ∧ q ≤ 1099511627776 ∧ i = .int .i64 k ∧ r = .int .i64 q ∧ Hid (Weighs (ls.take k) q) ∧ Hid (Below w.heap.size w w')) (fun _ i _ => ls.length - (intOf i).toNat)
  case atStart => exact ⟨0, 0, Nat.zero_le _, by omega, by omega, rfl, rfl, Lib.hid (Or.inr ⟨by omega, rfl⟩), Lib.hid (Below.refl _ _)⟩
  case round =>
    obtain ⟨k, q, hk, hq0, hq1, rfl, rfl, HQ, HB⟩ := hrel
    by_cases hlt : k < ls.length
    · by_cases hq : q ≤ 2000
      · obtain ⟨ad, Aj, cj, b, rfl, hbe, hcell0, _, hb⟩ := HR.out.at_ k hlt
        have hcell := (HB.out.cell (World.block_lt_of_cell? w _ hcell0)).trans hcell0
        have hlb := hb.len
        have HBE := Lib.hid hbe
        clear hbe hb hcell0
        go_wp2_with fail
        refine (asum_any q hq0 hq1 _ _ [(b.length : Int), 1] (by intro x hx; simp only [List.mem_cons, List.not_mem_nil, or_false] at hx; omega) _ (RI.two wr b.length 1 3 rfl)).mono ?_
        rintro e w' ⟨rfl, rfl⟩
        go_wp2
        go_roundw
        case rel =>
          have hs : sat q [(b.length : Int), 1] = if (b.length : Int) > 1099511627776 - q ∨ b.length + q + 1 > 1099511627776 then 1099511627776 else q + b.length + 1 := by
            simp only [sat]
            repeat' split
            all_goals omega
          have hw := weight_take ls k hlt
          rw [← HBE.out] at hw
          refine ⟨k + 1, _, by omega, ?_, ?_, by go_num, rfl, Lib.hid ?_, Lib.hid (HB.out.alloc HB.out.size _)⟩
          · rw [hs]; split <;> omega
          · rw [hs]; split <;> omega
          · rw [hs]
            unfold Weighs at *
            have hQ := HQ.out
            split <;> omega
        case measure => simp [intOf]; omega
      · go_wp2
        go_ret
        exact ⟨_, rfl, by have hQ := HQ.out; have := weight_le ls k; unfold Weighs at *; omega, HB.out⟩
    · go_wp2
      go_ret
      obtain rfl : k = ls.length := by omega
      exact ⟨_, rfl, by have hQ := HQ.out; rw [List.take_length] at hQ; exact hQ, HB.out⟩
end Go.Proofs.Ytigpeghfhfknjaa
