/- Numbers in bytes, and back: plain. Conditions: none. -/
import Derived.Test.YtdldclakkplliaaCrcWalks
namespace Go.Proofs.Ytdldclakkplliaa
set_option linter.unusedVariables false
set_option linter.unusedSimpArgs false
open Go.RowKit

/-- A number in so many bytes, the least first. -/
def putN (n : Nat) : Nat → List UInt8
  | 0 => []
  | k + 1 => UInt8.ofNat (n % 256) :: putN (n / 256) k
theorem putN_length (n k : Nat) : (putN n k).length = k := by
  induction k generalizing n with
  | zero => rfl
  | succ k ih => simp [putN, ih]
/-- The number of bytes. -/
def getN : List UInt8 → Nat
  | [] => 0
  | c :: l => c.toNat + 256 * getN l
theorem getN_lt (l : List UInt8) : getN l < 256 ^ l.length := by
  induction l with
  | nil => simp [getN]
  | cons c l ih =>
    have := c.toNat_lt
    simp only [getN, List.length_cons, Nat.pow_succ]
    omega
theorem getN_putN (n k : Nat) (h : n < 256 ^ k) : getN (putN n k) = n := by
  induction k generalizing n with
  | zero => simp at h; subst h; rfl
  | succ k ih =>
    simp only [putN, getN]
    rw [Nat.pow_succ] at h
    rw [ih (n / 256) (by omega)]
    have : (UInt8.ofNat (n % 256)).toNat = n % 256 := by simp
    rw [this]
    omega
theorem getN_append (a b : List UInt8) : getN (a ++ b) = getN a + 256 ^ a.length * getN b := by
  induction a with
  | nil => simp [getN]
  | cons c a ih =>
    simp only [List.cons_append, getN, ih, List.length_cons, Nat.pow_succ]
    rw [Nat.mul_add, ← Nat.mul_assoc, Nat.add_assoc, Nat.mul_comm 256 (256 ^ a.length)]
theorem putN_take (n k j : Nat) (h : j ≤ k) : (putN n k).take j = putN n j := by
  induction j generalizing n k with
  | zero => rfl
  | succ j ih =>
    match k, h with
    | k + 1, h => simp only [putN, List.take_succ_cons]; rw [ih _ _ (by omega)]
/-- A record's sum. -/
def sumN (number k : Nat) (b : List UInt8) : List UInt8 := putN (Crc.sum (putN number 8 ++ (putN k 8 ++ b))) 4
theorem sumN_length (number k : Nat) (b : List UInt8) : (sumN number k b).length = 4 := putN_length _ _
/-- Where a record stands that comes behind some bytes. -/
def placeN (e : Nat) : Nat := if 64 - e % 64 < 9 then e + (64 - e % 64) else e
theorem placeN_le (e : Nat) : e ≤ placeN e ∧ placeN e ≤ e + 8 ∧ placeN e % 64 + 9 ≤ 64 := by
  unfold placeN
  split
  · refine ⟨by omega, by omega, ?_⟩
    have : (e + (64 - e % 64)) % 64 = 0 := by omega
    omega
  · omega
end Go.Proofs.Ytdldclakkplliaa
