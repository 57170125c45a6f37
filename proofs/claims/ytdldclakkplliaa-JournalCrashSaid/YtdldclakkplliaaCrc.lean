/- The sum of bytes as a plain function on lists of bytes, and its laws (chapter 2). Conditions: none. -/
import Derived.KernelRfl
import Derived.Laws.BitsAllLaws
namespace Go.Proofs.Ytdldclakkplliaa.Crc
set_option linter.unusedVariables false
set_option linter.unusedSimpArgs false

/-- One turn of the register. -/
def T (r : Nat) : Nat := (r >>> 1) ^^^ (if r % 2 = 1 then 3988292384 else 0)
/-- So many turns. -/
def Tn : Nat → Nat → Nat
  | 0, r => r
  | n + 1, r => Tn n (T r)
/-- A byte. -/
def B (r : Nat) (c : UInt8) : Nat := Tn 8 (r ^^^ c.toNat)
/-- The register behind bytes. -/
def reg (r : Nat) (l : List UInt8) : Nat := l.foldl B r
/-- crc.More. -/
def more (s : Nat) (l : List UInt8) : Nat := reg (s ^^^ 4294967295) l ^^^ 4294967295
def sum (l : List UInt8) : Nat := more 0 l

theorem lt_of_xor {a b : Nat} (ha : a < 2 ^ 32) (hb : b < 2 ^ 32) : a ^^^ b < 2 ^ 32 := Nat.xor_lt_two_pow ha hb

theorem T_lt {r : Nat} (h : r < 2 ^ 32) : T r < 2 ^ 32 := by
  unfold T
  refine lt_of_xor ?_ ?_
  · rw [Nat.shiftRight_eq_div_pow]; omega
  · split <;> decide

theorem Tn_lt (n : Nat) {r : Nat} (h : r < 2 ^ 32) : Tn n r < 2 ^ 32 := by
  induction n generalizing r with
  | zero => exact h
  | succ n ih => exact ih (T_lt h)

theorem B_lt {r : Nat} (h : r < 2 ^ 32) (c : UInt8) : B r c < 2 ^ 32 :=
  Tn_lt 8 (lt_of_xor h (by have := c.toNat_lt; omega))

theorem reg_lt {r : Nat} (h : r < 2 ^ 32) (l : List UInt8) : reg r l < 2 ^ 32 := by
  induction l generalizing r with
  | nil => exact h
  | cons c l ih => exact ih (B_lt h c)

theorem more_lt {s : Nat} (h : s < 2 ^ 32) (l : List UInt8) : more s l < 2 ^ 32 :=
  lt_of_xor (reg_lt (lt_of_xor h (by decide)) l) (by decide)
theorem sum_lt (l : List UInt8) : sum l < 2 ^ 32 := more_lt (by decide) l

theorem reg_append (r : Nat) (a b : List UInt8) : reg r (a ++ b) = reg (reg r a) b := by simp [reg]
theorem more_append (s : Nat) (a b : List UInt8) : more s (a ++ b) = more (more s a) b := by
  simp [more, reg_append, Nat.xor_assoc]
theorem more_nil (s : Nat) : more s [] = s := by simp [more, reg, Nat.xor_assoc]
theorem reg_snoc (r : Nat) (a : List UInt8) (c : UInt8) : reg r (a ++ [c]) = B (reg r a) c := by simp [reg]

/-! ### the register is linear -/
theorem xlc (a b c : Nat) : a ^^^ (b ^^^ c) = b ^^^ (a ^^^ c) := by rw [← Nat.xor_assoc, Nat.xor_comm a b, Nat.xor_assoc]
theorem xor_self_left (a b : Nat) : a ^^^ (a ^^^ b) = b := by rw [← Nat.xor_assoc]; simp
theorem eq_of_xor {a b : Nat} (h : a ^^^ b = 0) : a = b := by
  have := xor_self_left a b
  rw [h] at this
  simpa using this
theorem mod2_xor (a b : Nat) : (a ^^^ b) % 2 = (a % 2 + b % 2) % 2 := by
  have h := Nat.xor_mod_two_eq_one (a := a) (b := b)
  omega

theorem T_xor (a b : Nat) : T (a ^^^ b) = T a ^^^ T b := by
  unfold T
  rw [Nat.shiftRight_xor_distrib, mod2_xor]
  have ha : a % 2 = 0 ∨ a % 2 = 1 := by omega
  have hb : b % 2 = 0 ∨ b % 2 = 1 := by omega
  rcases ha with ha | ha <;> rcases hb with hb | hb <;> simp only [ha, hb] <;> simp [Nat.xor_assoc, Nat.xor_comm, xlc, xor_self_left]

theorem Tn_xor (n : Nat) : ∀ a b : Nat, Tn n (a ^^^ b) = Tn n a ^^^ Tn n b := by
  induction n with
  | zero => exact fun _ _ => rfl
  | succ n ih => exact fun a b => by simp only [Tn, T_xor, ih]

theorem Tn_add (m n r : Nat) : Tn (m + n) r = Tn n (Tn m r) := by
  induction m generalizing r with
  | zero => simp [Tn]
  | succ m ih => rw [Nat.succ_add]; exact ih _

theorem Tn_zero (n : Nat) : Tn n 0 = 0 := by
  induction n with
  | zero => rfl
  | succ n ih => simpa [Tn, T] using ih

theorem T_inj0 {r : Nat} (h : r < 2 ^ 32) (h0 : T r = 0) : r = 0 := by
  unfold T at h0
  split at h0
  · exfalso
    have e : r >>> 1 = 3988292384 := eq_of_xor h0
    rw [Nat.shiftRight_eq_div_pow] at e
    omega
  · rw [Nat.xor_zero, Nat.shiftRight_eq_div_pow] at h0
    omega

theorem Tn_inj0 (n : Nat) {r : Nat} (h : r < 2 ^ 32) (h0 : Tn n r = 0) : r = 0 := by
  induction n generalizing r with
  | zero => exact h0
  | succ n ih => exact T_inj0 h (ih (T_lt h) h0)

theorem Tn_inj (n : Nat) {a b : Nat} (ha : a < 2 ^ 32) (hb : b < 2 ^ 32) (h : Tn n a = Tn n b) : a = b := by
  have := Tn_inj0 n (lt_of_xor ha hb) (by rw [Tn_xor, h]; simp)
  exact eq_of_xor this

/-! ### pieces -/
theorem foldl_more (s : Nat) (l : List (List UInt8)) : l.foldl more s = more s l.flatten := by
  induction l generalizing s with
  | nil => simp [more_nil]
  | cons a l ih => simp only [List.foldl_cons, List.flatten_cons, more_append, ih]

/-! ### what a changed byte changes -/
theorem B_xor (a b : Nat) (c : UInt8) : B (a ^^^ b) c = B a c ^^^ Tn 8 b := by
  unfold B
  rw [← Tn_xor]
  congr 1
  rw [Nat.xor_assoc, Nat.xor_comm b, Nat.xor_assoc]

theorem reg_xor (l : List UInt8) : ∀ a b : Nat, reg (a ^^^ b) l = reg a l ^^^ Tn (8 * l.length) b := by
  induction l with
  | nil => exact fun _ _ => rfl
  | cons c l ih =>
    intro a b
    show reg (B (a ^^^ b) c) l = reg (B a c) l ^^^ _
    rw [B_xor, ih, ← Tn_add, List.length_cons]
    congr 2
    omega

theorem reg_set (l : List UInt8) : ∀ (r j : Nat) (m : UInt8), j < l.length → reg r (l.set j (l.getD j 0 ^^^ m)) = reg r l ^^^ Tn (8 * (l.length - j)) m.toNat := by
  induction l with
  | nil => intro r j m h; simp at h
  | cons c l ih =>
    intro r j m h
    cases j with
    | zero =>
      show reg (B r (c ^^^ m)) l = reg (B r c) l ^^^ _
      have e : B r (c ^^^ m) = B r c ^^^ Tn 8 m.toNat := by
        unfold B
        rw [UInt8.toNat_xor, ← Tn_xor, Nat.xor_assoc]
      rw [e, reg_xor, ← Tn_add, List.length_cons]
      congr 2
      omega
    | succ j =>
      show reg (B r c) (l.set j (l.getD j 0 ^^^ m)) = reg (B r c) l ^^^ _
      rw [ih _ j m (by simpa using h), List.length_cons]
      congr 2
      omega

theorem sum_set (l : List UInt8) (j : Nat) (m : UInt8) (h : j < l.length) : sum (l.set j (l.getD j 0 ^^^ m)) = sum l ^^^ Tn (8 * (l.length - j)) m.toNat := by
  unfold sum more
  rw [reg_set l _ j m h, Nat.xor_assoc, Nat.xor_comm (Tn _ _), ← Nat.xor_assoc]

theorem Tn_pow (s : Nat) (h : s < 32) : Tn s (2 ^ s) = 1 := by
  have e : ∀ s, s < 32 → Tn s (2 ^ s) = 1 := by decide
  exact e s h

theorem Tn_bit (n s : Nat) (hs : s ≤ n) (h : s < 32) : Tn n (2 ^ s) = Tn (n - s) 1 := by
  obtain ⟨d, rfl⟩ : ∃ d, n = s + d := ⟨n - s, by omega⟩
  rw [Tn_add, Tn_pow s h]
  congr 1
  omega

/-- No turn number up to n leads from r back to 1. -/
def away : Nat → Nat → Bool
  | 0, _ => true
  | n + 1, r => r != 1 && away n (T r)
theorem away_Tn (n : Nat) : ∀ r d : Nat, away n r = true → d < n → Tn d r ≠ 1 := by
  induction n with
  | zero => intro r d _ h; omega
  | succ n ih =>
    intro r d h hd
    simp only [away, Bool.and_eq_true, bne_iff_ne] at h
    cases d with
    | zero => exact h.1
    | succ d => exact ih (T r) d h.2 (by omega)
theorem away_4000 : away 4000 (T 1) = true := by kernel_rfl
theorem Tn_one_ne (d : Nat) (h0 : 0 < d) (h : d ≤ 4000) : Tn d 1 ≠ 1 := by
  obtain ⟨e, rfl⟩ : ∃ e, d = e + 1 := ⟨d - 1, by omega⟩
  exact away_Tn 4000 (T 1) e away_4000 (by omega)

theorem two_bits (p q : Nat) (h : p < q) (hq : q - p ≤ 4000) : Tn q 1 ^^^ Tn p 1 ≠ 0 := by
  intro e
  have e' := eq_of_xor e
  obtain ⟨d, rfl⟩ : ∃ d, q = d + p := ⟨q - p, by omega⟩
  rw [Tn_add] at e'
  exact Tn_one_ne d (by omega) (by omega) (Tn_inj p (Tn_lt d (by decide)) (by decide) e')

theorem ne_of_xor {a d : Nat} (h : d ≠ 0) : a ^^^ d ≠ a := by
  intro e
  apply h
  have := xor_self_left a d
  rw [e] at this
  simpa using this.symm

/-- One bit, or two. -/
theorem flips (b : List UInt8) (i k : Nat) (hn : b.length ≤ 500) (hi : i < 8 * b.length) (hk : k < 8 * b.length) (mi mk : UInt8) (hmi : mi.toNat = 2 ^ (i % 8)) (hmk : mk.toNat = 2 ^ (k % 8)) :
    sum (b.set (i / 8) (b.getD (i / 8) 0 ^^^ mi)) ≠ sum b ∧
    (i ≠ k → sum ((b.set (i / 8) (b.getD (i / 8) 0 ^^^ mi)).set (k / 8) ((b.set (i / 8) (b.getD (i / 8) 0 ^^^ mi)).getD (k / 8) 0 ^^^ mk)) ≠ sum b) := by
  have e1 : sum (b.set (i / 8) (b.getD (i / 8) 0 ^^^ mi)) = sum b ^^^ Tn (8 * b.length - i) 1 := by
    rw [sum_set b _ _ (by omega), hmi, Tn_bit _ _ (by omega) (by omega)]
    congr 2
    omega
  constructor
  · rw [e1]
    refine ne_of_xor fun e => ?_
    have := Tn_inj0 _ (by decide) e
    omega
  · intro hne
    rw [sum_set _ _ _ (by simp; omega), List.length_set, e1, hmk, Tn_bit _ _ (by omega) (by omega), Nat.xor_assoc]
    refine ne_of_xor ?_
    rw [show 8 * (b.length - k / 8) - k % 8 = 8 * b.length - k from by omega]
    rcases Nat.lt_or_ge i k with h | h
    · exact two_bits _ _ (by omega) (by omega)
    · rw [Nat.xor_comm]
      exact two_bits _ _ (by omega) (by omega)

theorem T_double (y : Nat) : T (2 * y) = y := by
  unfold T
  rw [if_neg (by omega), Nat.xor_zero, Nat.shiftRight_eq_div_pow]
  omega
theorem Tn_256 (y : Nat) : Tn 8 (256 * y) = y := by
  rw [show 256 * y = 2 * (2 * (2 * (2 * (2 * (2 * (2 * (2 * y))))))) from by omega]
  simp only [Tn, T_double]
theorem Tn_256' (n y : Nat) : Tn (n + 8) (256 * y) = Tn n y := by rw [Nat.add_comm, Tn_add, Tn_256]

theorem four_zero (a b c d : Nat) (ha : a < 256) (hb : b < 256) (hc : c < 256) : a ^^^ 256 * (b ^^^ 256 * (c ^^^ 256 * d)) = 0 ↔ a = 0 ∧ b = 0 ∧ c = 0 ∧ d = 0 := by
  have key : ∀ x y : Nat, x < 256 → (x ^^^ 256 * y = 0 ↔ x = 0 ∧ y = 0) := by
    intro x y hx
    constructor
    · intro e
      have := eq_of_xor e
      omega
    · rintro ⟨rfl, rfl⟩; rfl
  rw [key _ _ ha, key _ _ hb, key _ _ hc]

/-- Four neighbouring bytes. -/
theorem four (b : List UInt8) (j : Nat) (hj : j + 4 ≤ b.length) (x0 x1 x2 x3 : UInt8) (d1 d2 d3 d4 : List UInt8)
    (h1 : d1 = b.set j (b.getD j 0 ^^^ x0)) (h2 : d2 = d1.set (j + 1) (d1.getD (j + 1) 0 ^^^ x1)) (h3 : d3 = d2.set (j + 2) (d2.getD (j + 2) 0 ^^^ x2)) (h4 : d4 = d3.set (j + 3) (d3.getD (j + 3) 0 ^^^ x3)) :
    sum d4 = sum b ↔ x0.toNat = 0 ∧ x1.toNat = 0 ∧ x2.toNat = 0 ∧ x3.toNat = 0 := by
  have l1 : d1.length = b.length := by rw [h1]; simp
  have l2 : d2.length = b.length := by rw [h2]; simp [l1]
  have l3 : d3.length = b.length := by rw [h3]; simp [l2]
  have e : sum d4 = sum b ^^^ Tn (8 * (b.length - j)) (x0.toNat ^^^ 256 * (x1.toNat ^^^ 256 * (x2.toNat ^^^ 256 * x3.toNat))) := by
    rw [h4, sum_set _ _ _ (by omega), l3, h3, sum_set _ _ _ (by omega), l2, h2, sum_set _ _ _ (by omega), l1, h1, sum_set _ _ _ (by omega)]
    obtain ⟨m, hm⟩ : ∃ m, b.length - j = m + 4 := ⟨b.length - j - 4, by omega⟩
    rw [hm, show b.length - (j + 1) = m + 3 from by omega, show b.length - (j + 2) = m + 2 from by omega, show b.length - (j + 3) = m + 1 from by omega]
    rw [Tn_xor, show 8 * (m + 4) = (8 * (m + 3)) + 8 from by omega, Tn_256', Tn_xor, show 8 * (m + 3) = (8 * (m + 2)) + 8 from by omega, Tn_256', Tn_xor, show 8 * (m + 2) = (8 * (m + 1)) + 8 from by omega, Tn_256']
    simp only [Nat.xor_assoc]
  rw [e, ← four_zero _ _ _ _ x0.toNat_lt x1.toNat_lt x2.toNat_lt]
  constructor
  · intro h
    refine Tn_inj0 _ ?_ (Classical.byContradiction fun hne => ne_of_xor hne h)
    have := x0.toNat_lt
    have := x1.toNat_lt
    have := x2.toNat_lt
    have := x3.toNat_lt
    have s3 : x2.toNat ^^^ 256 * x3.toNat < 2 ^ 16 := Nat.xor_lt_two_pow (by omega) (by omega)
    have s2 : x1.toNat ^^^ 256 * (x2.toNat ^^^ 256 * x3.toNat) < 2 ^ 24 := Nat.xor_lt_two_pow (by omega) (by omega)
    exact Nat.xor_lt_two_pow (by omega) (by omega)
  · intro h
    rw [h, Tn_zero, Nat.xor_zero]

/-- So many of four neighbouring bytes, changed. -/
def patch (b : List UInt8) (j x : Nat) : Nat → List UInt8
  | 0 => b
  | n + 1 => (patch b j x n).set (j + n) ((patch b j x n).getD (j + n) 0 ^^^ UInt8.ofNat (x / 2 ^ (8 * n)))
theorem patch_length (b : List UInt8) (j x n : Nat) : (patch b j x n).length = b.length := by
  induction n with
  | zero => rfl
  | succ n ih => simp [patch, ih]
theorem patch_sum (b : List UInt8) (j x : Nat) (hj : j + 4 ≤ b.length) (hx : x < 2 ^ 32) : sum (patch b j x 4) = sum b ↔ x = 0 := by
  rw [four b j hj (UInt8.ofNat (x / 2 ^ (8 * 0))) (UInt8.ofNat (x / 2 ^ (8 * 1))) (UInt8.ofNat (x / 2 ^ (8 * 2))) (UInt8.ofNat (x / 2 ^ (8 * 3))) (patch b j x 1) (patch b j x 2) (patch b j x 3) (patch b j x 4) rfl rfl rfl rfl]
  simp only [UInt8.toNat_ofNat']
  omega

end Go.Proofs.Ytdldclakkplliaa.Crc
