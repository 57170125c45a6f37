/- The walks of get and of a record's sum. Conditions: none. -/
import Derived.Test.YtdldclakkplliaaJSmall
namespace Go.Proofs.Ytdldclakkplliaa
set_option linter.unusedVariables false
set_option linter.unusedSimpArgs false
open Go.RowKit

theorem getN_take (bs : List UInt8) (k : Nat) (h : k < bs.length) : getN (bs.take (k + 1)) = getN (bs.take k) + 256 ^ k * (bs.getD k 0).toNat := by
  rw [List.take_succ_eq_append_getElem h, getN_append, List.length_take, Nat.min_eq_left (by omega), List.getD_eq_getElem?_getD, List.getElem?_eq_getElem h]
  simp [getN]
theorem i64_or_nat (a b : Nat) (ha : a < 9223372036854775808) (hb : b < 9223372036854775808) : bits .or .i64 (a : Int) (b : Int) = ((a ||| b : Nat) : Int) := by
  have hx : a ||| b < 2 ^ 63 := Nat.or_lt_two_pow (by omega) (by omega)
  show IntKind.i64.wrap ((BitVec.ofInt 64 (a : Int) ||| BitVec.ofInt 64 (b : Int)).toNat : Int) = _
  rw [BitVec.toNat_or, ofInt_u64 a (by omega), ofInt_u64 b (by omega)]
  exact IntWalk.i64_in _ (by omega)
theorem get_step (q x k : Nat) (hq : q < 256 ^ k) (hx : x < 256) (hk : k < 7) : bits .or .i64 (q : Int) (wrap64 ((x : Int) * 2 ^ (8 * k))) = ((q + 256 ^ k * x : Nat) : Int) := by
  have hp : (2 : Nat) ^ (8 * k) = 256 ^ k := by rw [Nat.pow_mul]
  have hle : 256 ^ k ≤ 256 ^ 6 := Nat.pow_le_pow_right (by omega) (by omega)
  have hle2 : 256 ^ k * x ≤ 256 ^ 6 * 255 := Nat.mul_le_mul hle (by omega)
  have e1 : ((x : Int) * 2 ^ (8 * k)) = ((256 ^ k * x : Nat) : Int) := by
    rw [← hp]
    push_cast
    exact Int.mul_comm _ _
  rw [e1, show wrap64 ((256 ^ k * x : Nat) : Int) = ((256 ^ k * x : Nat) : Int) by unfold wrap64; omega, i64_or_nat _ _ (by omega) (by omega)]
  congr 1
  have h1 := Nat.shiftLeft_add_eq_or_of_lt (b := q) (i := 8 * k) (by rw [hp]; exact hq) x
  rw [Nat.shiftLeft_eq, hp, Nat.mul_comm x, Nat.or_comm] at h1
  omega
set_option maxHeartbeats 2000000 in
theorem get_any (A : Option Addr) (c : Nat) (bs : List UInt8) (w : World) (hr : RB w A bs) (hl : bs.length ≤ 7) : Calls Try.prog 68 #[.slice A bs.length c] w fun e w' => e = .returned (.int .i64 (getN bs)) ∧ w = w' := by
  obtain ⟨n, hn⟩ : ∃ n, n = bs.length := ⟨_, rfl⟩
  have HR := Lib.hid hr
  have HN := Lib.hid hn
  rw [← hn] at hl ⊢
  clear hr hn
  go_enter Try.func68, Try.ntmps68
  go_wp2
  go_loopw [2, 3, 4, 7] (fun u2 u3 u4 u7 w' => ∃ k q : Nat, k ≤ n ∧ u7 = .int .i64 k ∧ u2 = .int .i64 q ∧ Hid (q = getN (bs.take k)) ∧ w' = w) (fun _ _ _ u7 _ => n - (intOf u7).toNat)
  case atStart => exact ⟨0, 0, by omega, rfl, rfl, Lib.hid rfl, rfl⟩
  case round =>
    obtain ⟨k, q, hk, rfl, rfl, HQ, rfl⟩ := hrel
    by_cases hlt : k < n
    · obtain ⟨ad, rfl, c0⟩ := HR.out.at_ k (by rw [← HN.out]; exact hlt)
      obtain ⟨x, hx⟩ : ∃ x, x = (bs.getD k 0).toNat := ⟨_, rfl⟩
      rw [← hx] at c0
      have hx256 : x < 256 := by rw [hx]; exact (bs.getD k 0).toNat_lt
      have HX := Lib.hid hx
      clear hx
      go_wp2
      go_roundw
      case rel =>
        have h1 := getN_lt (bs.take k)
        rw [List.length_take, Nat.min_eq_left (by rw [← HN.out]; omega)] at h1
        refine ⟨k + 1, q + 256 ^ k * x, by omega, by go_num, int_eq (get_step q x k (by rw [HQ.out]; exact h1) hx256 (by omega)), Lib.hid (by rw [getN_take _ _ (by rw [← HN.out]; exact hlt), ← HQ.out, ← HX.out]), trivial⟩
      case measure => simp [intOf]; omega
    · obtain rfl : k = n := by omega
      have HE : Hid (q = getN bs) := Lib.hid (by rw [HQ.out, HN.out, List.take_length])
      go_wp2
      go_ret
      exact ⟨ret_int (by rw [HE.out]), rfl⟩

/-! ### a record's sum -/
theorem RL.three {w : World} {A1 A2 A3 : Option Addr} {b1 b2 b3 : List UInt8} {c1 c2 c3 : Nat} (t : TypeId) (h1 : RB w A1 b1) (s1 : SV A1 b1.length c1) (h2 : RB w A2 b2) (s2 : SV A2 b2.length c2) (h3 : RB w A3 b3) (s3 : SV A3 b3.length c3) {n : Nat} (hn : n = w.heap.size) {n1 n2 n3 : Nat} (e1 : n1 = b1.length) (e2 : n2 = b2.length) (e3 : n3 = b3.length) :
    RL (w.alloc (.cells #[.slice A1 n1 c1, .slice A2 n2 c2, .slice A3 n3 c3] t)) (some ⟨n, 0, none⟩) [b1, b2, b3] := by
  subst e1 e2 e3
  refine RL.mk' (by simp) (fun _ => ⟨_, rfl, fun j hj => ?_⟩)
  have : j = 0 ∨ j = 1 ∨ j = 2 := by simp at hj; omega
  rcases this with rfl | rfl | rfl
  · exact ⟨A1, c1, cell_alloc w _ t _ n hn 0 _ rfl, s1, h1.alloc _⟩
  · exact ⟨A2, c2, cell_alloc w _ t _ n hn 1 _ rfl, s2, h2.alloc _⟩
  · exact ⟨A3, c3, cell_alloc w _ t _ n hn 2 _ rfl, s3, h3.alloc _⟩
theorem NewB.ext {w w1 : World} {k : Nat} {bs : List UInt8} {e : Ending} {w' : World} (hb : Below w.heap.size w w1) (h : NewB w1 k bs e w') : NewB w k bs e w' := by
  obtain ⟨A, c, e1, h1, h2, h3, h4⟩ := h
  exact ⟨A, c, e1, h1, h2, fun ad e => Nat.le_trans hb.size (h3 ad e), bel_then hb h4⟩
set_option maxHeartbeats 2000000 in
theorem sumj_any (J : Value) (number k : Nat) (A : Option Addr) (c : Nat) (b : List UInt8) (w : World) (hr : RB w A b) (hs : SV A b.length c) (hn : number < 9223372036854775808) (hk : k < 9223372036854775808) :
    Calls Try.prog 48 #[J, .int .i64 number, .int .i64 k, .slice A b.length c] w (NewB w 4 (sumN number k b)) := by
  have HR := Lib.hid hr
  have HS := Lib.hid hs
  obtain ⟨n, hnl⟩ : ∃ n, n = b.length := ⟨_, rfl⟩
  have HN := Lib.hid hnl
  rw [← hnl]
  have HP1 := Lib.hid (fun W => put_any number 8 W hn (by omega))
  have HP2 := Lib.hid (fun W => put_any k 8 W hk (by omega))
  clear hr hs hnl
  go_enter Try.func48, Try.ntmps48
  go_wp2_with fail
  refine (HP1.out _).mono ?_
  rintro e w1 ⟨A1, c1, rfl, sv1, rb1, -, hb1⟩
  have SV1 := Lib.hid sv1
  have RB1 := Lib.hid rb1
  have HB1 := Lib.hid hb1
  clear sv1 rb1 hb1
  go_wp2_with fail
  refine (HP2.out _).mono ?_
  rintro e w2 ⟨A2, c2, rfl, sv2, rb2, -, hb2⟩
  have SV2 := Lib.hid sv2
  have RB2 := Lib.hid rb2
  have HB2 := Lib.hid (bel_then HB1.out hb2)
  have RB1' := Lib.hid (RB1.out.below hb2)
  clear sv2 rb2 hb2
  have hl := RL.three (w := w2) 22 RB1'.out (c1 := c1) (by rw [putN_length]; exact SV1.out) RB2.out (c2 := c2) (by rw [putN_length]; exact SV2.out) (HR.out.below HB2.out) HS.out (n := w2.heap.size) rfl (n1 := 8) (n2 := 8) (n3 := n) (putN_length _ _).symm (putN_length _ _).symm HN.out
  have HL := Lib.hid hl
  have HLT := Lib.hid (Crc.sum_lt [putN number 8, putN k 8, b].flatten)
  obtain ⟨S, hS⟩ : ∃ S, S = Crc.sum [putN number 8, putN k 8, b].flatten := ⟨_, rfl⟩
  have HSS := Lib.hid hS
  have HB3 := Lib.hid (bel_alloc HB2.out (.cells #[.slice A1 8 c1, .slice A2 8 c2, .slice A n c] 22))
  have HSUM := Lib.hid (sum_any _ 3 [putN number 8, putN k 8, b] _ HL.out)
  rw [← hS] at HSUM HLT
  clear hl hS
  go_wp2_with fail
  refine HSUM.out.mono ?_
  rintro e w' ⟨rfl, rfl⟩
  have hlt := HLT.out
  go_wp2_with fail
  refine (put_any S 4 _ (by omega) (by omega)).mono ?_
  rintro e w4 h4
  have H4 := Lib.hid (NewB.ext HB3.out h4)
  clear h4
  obtain ⟨A4, c4, rfl, h5, h6, h7, h8⟩ := H4.out
  have SV4 := Lib.hid h5
  have RB4 := Lib.hid h6
  have FR4 := Lib.hid h7
  have HB4 := Lib.hid h8
  clear h5 h6 h7 h8 H4
  go_wp2
  go_ret
  refine ⟨A4, c4, rfl, SV4.out, ?_, FR4.out, HB4.out⟩
  have : sumN number k b = putN S 4 := by unfold sumN; rw [HSS.out]; simp
  rw [this]
  exact RB4.out
end Go.Proofs.Ytdldclakkplliaa
