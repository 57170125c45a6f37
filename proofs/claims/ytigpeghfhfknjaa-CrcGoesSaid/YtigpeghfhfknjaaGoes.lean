/- The walk of CrcGoes. Conditions: none. -/
import Derived.Test.YtigpeghfhfknjaaSums
import Derived.Deep.RegionHeld3
import Derived.Deep.QuietTactic
import Derived.BigQuiet
import Derived.Deep.RegionLaw
namespace Go.Proofs.Ytigpeghfhfknjaa
set_option linter.unusedVariables false
set_option linter.unusedSimpArgs false
open Go.RowKit

theorem sum1_at (n : Nat) (A : Option Addr) (c : Nat) (w : World) (bs : List UInt8) (h : Crc.sum bs = n) (hr : RL w A [bs]) :
    Calls Try.prog 8 #[.slice A 1 c] w fun e w' => e = .returned (.int .u32 (n : Nat)) ∧ w = w' := sum_at n A c [bs] w hr (by simpa using h)
theorem more_len (n : Nat) (s : Nat) (hs : s < 2 ^ 32) (A : Option Addr) (l c : Nat) (bs : List UInt8) (hl : bs.length = l) (w : World) (hr : RB w A bs) (h : Crc.more s bs = n) :
    Calls Try.prog 9 #[.int .u32 (s : Int), .slice A l c] w fun e w' => e = .returned (.int .u32 (n : Nat)) ∧ w = w' := by subst hl; exact more_at n s hs A c bs w hr h
theorem region_start {P : Program} {ops : Array Oper} {Q : Exit → Act → World → Prop} {S : World → Prop} {id : Nat} {a : Act} {w : World} {n : Nat} (hm : P.follows .mixedOrders = true) (hn : ops.size = n) (hS : S w.drew)
    (h : S w.drew → wpAnyH P .any ops Q S n (Array.replicate n false) a w.drew) : (Code.region id ops true).wp P Q a w := by
  subst hn
  exact wp_region_held_drew hm hS h
theorem same_len (q : Bool) (s : Nat) (A : Option Addr) (l c : Nat) (bs : List UInt8) (hl : bs.length = l) (w : World) (hr : RB w A bs) (hc : SV A bs.length c) (h : (s == Crc.sum bs) = q) :
    Calls Try.prog 12 #[.int .u32 (s : Int), .slice A l c] w fun e w' => e = .returned (.bool q) ∧ Below w.heap.size w w' := by subst hl; exact same_at q s A c bs w hr hc h
theorem round_at (r k n : Int) (w : World) (h1 : -9223372036854775808 ≤ k) (h2 : k ≤ 9223372036854775807) (hn : 0 < n) (hn2 : n ≤ 4611686018427387904) (h : k % n = r) :
    Calls Try.prog 13 #[.int .i64 k, .int .i64 n] w fun e w' => e = .returned (.int .i64 r) ∧ w = w' := by subst h; exact round_any k n w h1 h2 hn hn2

def G5o0 : Oper := { dst := some 27, op := Go.Op.move (Go.Operand.tmp 0), type := 24, pos := "law.go:56", after := #[], guard := none }
def G5o1 : Oper := { dst := some 28, op := Go.Op.move (Go.Operand.tmp 7), type := 3, pos := "law.go:56", after := #[], guard := none }
def G5o2 : Oper := { dst := some 29, op := Go.Op.slice 24 (Go.Operand.tmp 27) none (some (Go.Operand.tmp 28)) none, type := 24, pos := "law.go:56", after := #[{ on := 0, ground := Go.Ground.data }, { on := 1, ground := Go.Ground.data }], guard := none }
def G5o3 : Oper := { dst := some 30, op := Go.Op.buildSlice 22 1 #[(0, Go.Operand.tmp 29)], type := 22, pos := "law.go:56", after := #[{ on := 2, ground := Go.Ground.data }], guard := none }
def G5o4 : Oper := { dst := some 31, op := Go.Op.call { callee := Go.Callee.value (Go.Operand.func 8), args := #[Go.Operand.tmp 30], argTypes := #[22] }, type := 23, pos := "law.go:56", after := #[{ on := 3, ground := Go.Ground.data }], guard := none }
def G5o5 : Oper := { dst := some 32, op := Go.Op.move (Go.Operand.tmp 0), type := 24, pos := "law.go:56", after := #[], guard := none }
def G5o6 : Oper := { dst := some 33, op := Go.Op.move (Go.Operand.tmp 7), type := 3, pos := "law.go:56", after := #[], guard := none }
def G5o7 : Oper := { dst := some 34, op := Go.Op.slice 24 (Go.Operand.tmp 32) (some (Go.Operand.tmp 33)) none none, type := 24, pos := "law.go:56", after := #[{ on := 5, ground := Go.Ground.data }, { on := 6, ground := Go.Ground.data }], guard := none }
def G5o8 : Oper := { dst := some 35, op := Go.Op.call { callee := Go.Callee.value (Go.Operand.func 9), args := #[Go.Operand.tmp 31, Go.Operand.tmp 34], argTypes := #[23, 24] }, type := 23, pos := "law.go:56", after := #[{ on := 4, ground := Go.Ground.data }, { on := 7, ground := Go.Ground.data }, { on := 4, ground := Go.Ground.chain }], guard := none }
def G5o9 : Oper := { dst := some 36, op := Go.Op.move (Go.Operand.tmp 0), type := 24, pos := "law.go:56", after := #[], guard := none }
def G5o10 : Oper := { dst := some 37, op := Go.Op.buildSlice 22 1 #[(0, Go.Operand.tmp 36)], type := 22, pos := "law.go:56", after := #[{ on := 9, ground := Go.Ground.data }], guard := none }
def G5o11 : Oper := { dst := some 38, op := Go.Op.call { callee := Go.Callee.value (Go.Operand.func 8), args := #[Go.Operand.tmp 37], argTypes := #[22] }, type := 23, pos := "law.go:56", after := #[{ on := 10, ground := Go.Ground.data }, { on := 8, ground := Go.Ground.chain }], guard := none }
def G5o12 : Oper := { dst := some 39, op := Go.Op.binOp Go.BinOp.eql 23 (Go.Operand.tmp 35) (Go.Operand.tmp 38) 23, type := 4, pos := "law.go:56", after := #[{ on := 8, ground := Go.Ground.data }, { on := 11, ground := Go.Ground.data }], guard := none }
def G5o13 : Oper := { dst := some 40, op := Go.Op.move (Go.Operand.tmp 39), type := 4, pos := "law.go:56", after := #[{ on := 12, ground := Go.Ground.data }, { on := 11, ground := Go.Ground.chain }], guard := none }
def G5o14 : Oper := { dst := some 41, op := Go.Op.move (Go.Operand.tmp 0), type := 24, pos := "law.go:56", after := #[{ on := 13, ground := Go.Ground.guard }], guard := some (13, true) }
def G5o15 : Oper := { dst := some 42, op := Go.Op.move (Go.Operand.tmp 7), type := 3, pos := "law.go:56", after := #[{ on := 13, ground := Go.Ground.guard }], guard := some (13, true) }
def G5o16 : Oper := { dst := some 43, op := Go.Op.slice 24 (Go.Operand.tmp 41) none (some (Go.Operand.tmp 42)) none, type := 24, pos := "law.go:56", after := #[{ on := 14, ground := Go.Ground.data }, { on := 15, ground := Go.Ground.data }, { on := 13, ground := Go.Ground.guard }], guard := some (13, true) }
def G5o17 : Oper := { dst := some 44, op := Go.Op.buildSlice 22 1 #[(0, Go.Operand.tmp 43)], type := 22, pos := "law.go:56", after := #[{ on := 16, ground := Go.Ground.data }, { on := 13, ground := Go.Ground.guard }], guard := some (13, true) }
def G5o18 : Oper := { dst := some 45, op := Go.Op.call { callee := Go.Callee.value (Go.Operand.func 8), args := #[Go.Operand.tmp 44], argTypes := #[22] }, type := 23, pos := "law.go:56", after := #[{ on := 17, ground := Go.Ground.data }, { on := 13, ground := Go.Ground.chain }, { on := 13, ground := Go.Ground.guard }], guard := some (13, true) }
def G5o19 : Oper := { dst := some 46, op := Go.Op.move (Go.Operand.tmp 0), type := 24, pos := "law.go:56", after := #[{ on := 13, ground := Go.Ground.guard }], guard := some (13, true) }
def G5o20 : Oper := { dst := some 47, op := Go.Op.move (Go.Operand.tmp 7), type := 3, pos := "law.go:56", after := #[{ on := 13, ground := Go.Ground.guard }], guard := some (13, true) }
def G5o21 : Oper := { dst := some 48, op := Go.Op.slice 24 (Go.Operand.tmp 46) (some (Go.Operand.tmp 47)) none none, type := 24, pos := "law.go:56", after := #[{ on := 19, ground := Go.Ground.data }, { on := 20, ground := Go.Ground.data }, { on := 13, ground := Go.Ground.guard }], guard := some (13, true) }
def G5o22 : Oper := { dst := some 49, op := Go.Op.call { callee := Go.Callee.value (Go.Operand.func 9), args := #[Go.Operand.tmp 45, Go.Operand.tmp 48], argTypes := #[23, 24] }, type := 23, pos := "law.go:56", after := #[{ on := 18, ground := Go.Ground.data }, { on := 21, ground := Go.Ground.data }, { on := 18, ground := Go.Ground.chain }, { on := 13, ground := Go.Ground.guard }], guard := some (13, true) }
def G5o23 : Oper := { dst := some 50, op := Go.Op.move (Go.Operand.tmp 2), type := 24, pos := "law.go:56", after := #[{ on := 13, ground := Go.Ground.guard }], guard := some (13, true) }
def G5o24 : Oper := { dst := some 51, op := Go.Op.call { callee := Go.Callee.value (Go.Operand.func 9), args := #[Go.Operand.tmp 49, Go.Operand.tmp 50], argTypes := #[23, 24] }, type := 23, pos := "law.go:56", after := #[{ on := 22, ground := Go.Ground.data }, { on := 23, ground := Go.Ground.data }, { on := 22, ground := Go.Ground.chain }, { on := 13, ground := Go.Ground.guard }], guard := some (13, true) }
def G5o25 : Oper := { dst := some 52, op := Go.Op.move (Go.Operand.tmp 8), type := 23, pos := "law.go:56", after := #[{ on := 13, ground := Go.Ground.guard }], guard := some (13, true) }
def G5o26 : Oper := { dst := some 53, op := Go.Op.binOp Go.BinOp.eql 23 (Go.Operand.tmp 51) (Go.Operand.tmp 52) 23, type := 4, pos := "law.go:56", after := #[{ on := 24, ground := Go.Ground.data }, { on := 25, ground := Go.Ground.data }, { on := 13, ground := Go.Ground.guard }], guard := some (13, true) }
def G5o27 : Oper := { dst := some 54, op := Go.Op.pick (Go.Operand.tmp 40) (Go.Operand.tmp 53) (Go.Operand.const (Go.Value.bool false)), type := 4, pos := "law.go:56", after := #[{ on := 13, ground := Go.Ground.data }, { on := 26, ground := Go.Ground.data }], guard := none }
def G5o28 : Oper := { dst := some 55, op := Go.Op.move (Go.Operand.tmp 54), type := 4, pos := "law.go:56", after := #[{ on := 27, ground := Go.Ground.data }, { on := 24, ground := Go.Ground.chain }], guard := none }
def G5o29 : Oper := { dst := some 56, op := Go.Op.move (Go.Operand.tmp 8), type := 23, pos := "law.go:56", after := #[{ on := 28, ground := Go.Ground.guard }], guard := some (28, true) }
def G5o30 : Oper := { dst := some 57, op := Go.Op.call { callee := Go.Callee.value (Go.Operand.func 9), args := #[Go.Operand.tmp 56, Go.Operand.const (Go.Value.slice none 0 0)], argTypes := #[23, 24] }, type := 23, pos := "law.go:56", after := #[{ on := 29, ground := Go.Ground.data }, { on := 28, ground := Go.Ground.chain }, { on := 28, ground := Go.Ground.guard }], guard := some (28, true) }
def G5o31 : Oper := { dst := some 58, op := Go.Op.move (Go.Operand.tmp 8), type := 23, pos := "law.go:56", after := #[{ on := 28, ground := Go.Ground.guard }], guard := some (28, true) }
def G5o32 : Oper := { dst := some 59, op := Go.Op.binOp Go.BinOp.eql 23 (Go.Operand.tmp 57) (Go.Operand.tmp 58) 23, type := 4, pos := "law.go:56", after := #[{ on := 30, ground := Go.Ground.data }, { on := 31, ground := Go.Ground.data }, { on := 28, ground := Go.Ground.guard }], guard := some (28, true) }
def G5o33 : Oper := { dst := some 60, op := Go.Op.pick (Go.Operand.tmp 55) (Go.Operand.tmp 59) (Go.Operand.const (Go.Value.bool false)), type := 4, pos := "law.go:56", after := #[{ on := 28, ground := Go.Ground.data }, { on := 32, ground := Go.Ground.data }], guard := none }
def G5o34 : Oper := { dst := some 61, op := Go.Op.move (Go.Operand.tmp 60), type := 4, pos := "law.go:56", after := #[{ on := 33, ground := Go.Ground.data }, { on := 30, ground := Go.Ground.chain }], guard := none }
def G5o35 : Oper := { dst := some 62, op := Go.Op.move (Go.Operand.tmp 8), type := 23, pos := "law.go:56", after := #[{ on := 34, ground := Go.Ground.guard }], guard := some (34, true) }
def G5o36 : Oper := { dst := some 63, op := Go.Op.buildSlice 24 0 #[], type := 24, pos := "law.go:56", after := #[{ on := 34, ground := Go.Ground.guard }], guard := some (34, true) }
def G5o37 : Oper := { dst := some 64, op := Go.Op.move (Go.Operand.tmp 0), type := 24, pos := "law.go:56", after := #[{ on := 34, ground := Go.Ground.guard }], guard := some (34, true) }
def G5o38 : Oper := { dst := some 65, op := Go.Op.call { callee := Go.Callee.builtin Go.Builtin.append, args := #[Go.Operand.tmp 63, Go.Operand.tmp 64], argTypes := #[24, 24] }, type := 24, pos := "law.go:56", after := #[{ on := 36, ground := Go.Ground.data }, { on := 37, ground := Go.Ground.data }, { on := 34, ground := Go.Ground.chain }, { on := 34, ground := Go.Ground.guard }], guard := some (34, true) }
def G5o39 : Oper := { dst := some 66, op := Go.Op.move (Go.Operand.tmp 2), type := 24, pos := "law.go:56", after := #[{ on := 34, ground := Go.Ground.guard }], guard := some (34, true) }
def G5o40 : Oper := { dst := some 67, op := Go.Op.call { callee := Go.Callee.builtin Go.Builtin.append, args := #[Go.Operand.tmp 65, Go.Operand.tmp 66], argTypes := #[24, 24] }, type := 24, pos := "law.go:56", after := #[{ on := 38, ground := Go.Ground.data }, { on := 39, ground := Go.Ground.data }, { on := 38, ground := Go.Ground.chain }, { on := 34, ground := Go.Ground.guard }], guard := some (34, true) }
def G5o41 : Oper := { dst := some 68, op := Go.Op.call { callee := Go.Callee.value (Go.Operand.func 12), args := #[Go.Operand.tmp 62, Go.Operand.tmp 67], argTypes := #[23, 24] }, type := 4, pos := "law.go:56", after := #[{ on := 35, ground := Go.Ground.data }, { on := 40, ground := Go.Ground.data }, { on := 40, ground := Go.Ground.chain }, { on := 34, ground := Go.Ground.guard }], guard := some (34, true) }
def G5o42 : Oper := { dst := some 69, op := Go.Op.pick (Go.Operand.tmp 61) (Go.Operand.tmp 68) (Go.Operand.const (Go.Value.bool false)), type := 4, pos := "law.go:56", after := #[{ on := 34, ground := Go.Ground.data }, { on := 41, ground := Go.Ground.data }], guard := none }
def G5o43 : Oper := { dst := some 70, op := Go.Op.move (Go.Operand.tmp 69), type := 4, pos := "law.go:56", after := #[{ on := 42, ground := Go.Ground.data }, { on := 41, ground := Go.Ground.chain }], guard := none }
def G5o44 : Oper := { dst := some 71, op := Go.Op.call { callee := Go.Callee.value (Go.Operand.func 7), args := #[], argTypes := #[] }, type := 4, pos := "law.go:56", after := #[{ on := 43, ground := Go.Ground.chain }, { on := 43, ground := Go.Ground.guard }], guard := some (43, true) }
def G5o45 : Oper := { dst := some 72, op := Go.Op.pick (Go.Operand.tmp 70) (Go.Operand.tmp 71) (Go.Operand.const (Go.Value.bool false)), type := 4, pos := "law.go:56", after := #[{ on := 43, ground := Go.Ground.data }, { on := 44, ground := Go.Ground.data }], guard := none }
def G5o46 : Oper := { dst := some 6, op := Go.Op.assign (Go.Operand.tmp 72), type := 4, pos := "law.go:56", after := #[{ on := 45, ground := Go.Ground.data }, { on := 44, ground := Go.Ground.chain }, { on := 0, ground := Go.Ground.phase }, { on := 1, ground := Go.Ground.phase }, { on := 2, ground := Go.Ground.phase }, { on := 3, ground := Go.Ground.phase }, { on := 4, ground := Go.Ground.phase }, { on := 5, ground := Go.Ground.phase }, { on := 6, ground := Go.Ground.phase }, { on := 7, ground := Go.Ground.phase }, { on := 8, ground := Go.Ground.phase }, { on := 9, ground := Go.Ground.phase }, { on := 10, ground := Go.Ground.phase }, { on := 11, ground := Go.Ground.phase }, { on := 12, ground := Go.Ground.phase }, { on := 13, ground := Go.Ground.phase }, { on := 14, ground := Go.Ground.phase }, { on := 15, ground := Go.Ground.phase }, { on := 16, ground := Go.Ground.phase }, { on := 17, ground := Go.Ground.phase }, { on := 18, ground := Go.Ground.phase }, { on := 19, ground := Go.Ground.phase }, { on := 20, ground := Go.Ground.phase }, { on := 21, ground := Go.Ground.phase }, { on := 22, ground := Go.Ground.phase }, { on := 23, ground := Go.Ground.phase }, { on := 24, ground := Go.Ground.phase }, { on := 25, ground := Go.Ground.phase }, { on := 26, ground := Go.Ground.phase }, { on := 27, ground := Go.Ground.phase }, { on := 28, ground := Go.Ground.phase }, { on := 29, ground := Go.Ground.phase }, { on := 30, ground := Go.Ground.phase }, { on := 31, ground := Go.Ground.phase }, { on := 32, ground := Go.Ground.phase }, { on := 33, ground := Go.Ground.phase }, { on := 34, ground := Go.Ground.phase }, { on := 35, ground := Go.Ground.phase }, { on := 36, ground := Go.Ground.phase }, { on := 37, ground := Go.Ground.phase }, { on := 38, ground := Go.Ground.phase }, { on := 39, ground := Go.Ground.phase }, { on := 40, ground := Go.Ground.phase }, { on := 41, ground := Go.Ground.phase }, { on := 42, ground := Go.Ground.phase }, { on := 43, ground := Go.Ground.phase }, { on := 44, ground := Go.Ground.phase }, { on := 45, ground := Go.Ground.phase }], guard := none }
def G5 : Array Oper := #[G5o0, G5o1, G5o2, G5o3, G5o4, G5o5, G5o6, G5o7, G5o8, G5o9, G5o10, G5o11, G5o12, G5o13, G5o14, G5o15, G5o16, G5o17, G5o18, G5o19, G5o20, G5o21, G5o22, G5o23, G5o24, G5o25, G5o26, G5o27, G5o28, G5o29, G5o30, G5o31, G5o32, G5o33, G5o34, G5o35, G5o36, G5o37, G5o38, G5o39, G5o40, G5o41, G5o42, G5o43, G5o44, G5o45, G5o46]
theorem G5size : G5.size = 47 := by kernel_rfl
theorem G5ns : Region.noSelect G5 = true := by kernel_rfl
attribute [local go_sem] G5o0 G5o1 G5o2 G5o3 G5o4 G5o5 G5o6 G5o7 G5o8 G5o9 G5o10 G5o11 G5o12 G5o13 G5o14 G5o15 G5o16 G5o17 G5o18 G5o19 G5o20 G5o21 G5o22 G5o23 G5o24 G5o25 G5o26 G5o27 G5o28 G5o29 G5o30 G5o31 G5o32 G5o33 G5o34 G5o35 G5o36 G5o37 G5o38 G5o39 G5o40 G5o41 G5o42 G5o43 G5o44 G5o45 G5o46

set_option maxHeartbeats 4000000 in
theorem goes_main (A : Option Addr) (c : Nat) (b : List UInt8) (at_ : Int) (hat1 : -9223372036854775808 ≤ at_) (hat2 : at_ ≤ 9223372036854775807) (B : Option Addr) (cb : Nat) (m : List UInt8) (w : World) (hr : RB w A b) (hc : SV A b.length c) (hm : RB w B m) (hcm : SV B m.length cb) :
    Calls Try.prog 5 #[.slice A b.length c, .int .i64 at_, .slice B m.length cb] w fun e w' => e = .returned (.bool true) ∧ Below w.heap.size w w' := by
  have HR := Lib.hid hr
  have HM := Lib.hid hm
  have HC := Lib.hid hc
  have HCM := Lib.hid hcm
  have hl := hr.len
  have hml := hm.len
  clear hr hm hc hcm
  by_cases h1 : 500 < b.length
  · go_enter Try.func5, Try.ntmps5
    go_wp2_with fail
    refine (awake_any _).mono ?_
    rintro e w2 ⟨rfl, hB2⟩
    have HB2 := Lib.hid hB2
    clear hB2
    go_wp2
    go_ret
    exact ⟨rfl, HB2.out⟩
  · by_cases h2 : 500 < m.length
    · go_enter Try.func5, Try.ntmps5
      go_wp2_with fail
      refine (awake_any _).mono ?_
      rintro e w2 ⟨rfl, hB2⟩
      have HB2 := Lib.hid hB2
      clear hB2
      go_wp2
      go_ret
      exact ⟨rfl, HB2.out⟩
    · go_enter Try.func5, Try.ntmps5
      go_wp2_with fail
      have hk0 := Int.emod_nonneg at_ (show ((b.length : Int) + 1) ≠ 0 by omega)
      have hk1 := Int.emod_lt_of_pos at_ (show 0 < ((b.length : Int) + 1) by omega)
      obtain ⟨k, hk⟩ := Int.eq_ofNat_of_zero_le hk0
      rw [hk] at hk1
      have hkb : k ≤ b.length := by omega
      have hkc : k ≤ c := by have := HC.out.1; omega
      clear hk0
      refine (round_at k at_ (b.length + 1) w hat1 hat2 (by omega) (by omega) hk).mono ?_
      rintro e w' ⟨rfl, rfl⟩
      clear hk hat1 hat2
      go_wp2_with fail
      obtain ⟨S2, hS2⟩ : ∃ n, n = Crc.sum (b ++ m) := ⟨_, rfl⟩
      refine (sum_at S2 _ _ [b, m] _ (RL.two _ HR.out HC.out HM.out HCM.out rfl) (by simp [hS2])).mono ?_
      rintro e W ⟨rfl, hW⟩
      have HB : Hid (Below w.heap.size w W) := by rw [← hW]; exact ((Below.refl _ _).alloc (Nat.le_refl _) _)
      have H2 := Lib.hid hS2
      clear hW hS2
      go_wp2_with fail
      have hbW : RB W A b := HR.out.below HB.out
      have hb1W : RB W A (b.take k) := by have := hbW.cut (A' := A) 0 k (by omega) (fun _ ad e => by rw [e]; unfold Addr.add; rfl); simpa using this
      have HbW := Lib.hid hbW
      have Hb1W := Lib.hid hb1W
      have hlk : (b.take k).length = k := by rw [List.length_take]; omega
      have HLK := Lib.hid hlk
      clear hbW hb1W hlk
      obtain ⟨S1, hS1⟩ : ∃ n, n = Crc.sum (b.take k) := ⟨_, rfl⟩
      obtain ⟨S0, hS0⟩ : ∃ n, n = Crc.sum b := ⟨_, rfl⟩
      have H1 := Lib.hid hS1
      have H0 := Lib.hid hS0
      clear hS1 hS0
      obtain ⟨bm, hbm⟩ : ∃ bm, bm = b ++ m := ⟨_, rfl⟩
      have HBM := Lib.hid hbm
      have HBMl : Hid (b.length + m.length = bm.length) := by rw [hbm, List.length_append]; exact rfl
      have HSB : Hid ((S2 == Crc.sum bm) = true) := Lib.hid (by rw [hbm, ← H2.out]; exact beq_self_eq_true S2)
      clear hbm
      obtain ⟨A', hA'⟩ : ∃ A', (if c = k then A else Option.map (fun x => x.add k) A) = A' := ⟨_, rfl⟩
      have hb2W : RB W A' (b.drop k) := by
        have := HbW.out.cut (A' := A') k (b.length - k) (by omega) (fun hp ad e => by
          have := HC.out.1
          rw [← hA', if_neg (by omega), e]; rfl)
        rwa [List.take_of_length_le (by rw [List.length_drop]; omega)] at this
      have Hb2W := Lib.hid hb2W
      have hld : (b.drop k).length = b.length - k := List.length_drop
      have HLD := Lib.hid hld
      clear hb2W hld
      have HM10 : Hid (Crc.more S1 (b.drop k) = S0) := by rw [H1.out, H0.out]; show _ = _; rw [Crc.sum, ← Crc.more_append, List.take_append_drop]; rfl
      have HM02 : Hid (Crc.more S0 m = S2) := by rw [H2.out, H0.out, Crc.sum, ← Crc.more_append]; rfl
      have HMW : Hid (RB W B m) := HM.out.below HB.out
      have HS1 : Hid (S1 < 2 ^ 32) := by rw [H1.out]; exact Crc.sum_lt _
      have HS0 : Hid (S0 < 2 ^ 32) := by rw [H0.out]; exact Crc.sum_lt _
      have HS2 : Hid (S2 < 2 ^ 32) := by rw [H2.out]; exact Crc.sum_lt _
      have HSV1 : Hid (SV A (b.take k).length c) := by rw [HLK.out]; exact ⟨hkc, HC.out.2⟩
      refine region_start (S := fun W' => Below w.heap.size w W') (ops := G5) (by kernel_rfl) G5size (bel_drew HB.out) (fun hS => ?_)
      simp only [Array.replicate_succ, Array.replicate_zero, List.push_toArray, List.nil_append, List.cons_append]
      refine wpAnyH_take (i := 0) (oi := G5o0) (v := ?_) rfl G5ns (by kernel_rfl) (by kernel_rfl) (fun _ _ _ h => h) (Or.inl ⟨by rfl, ?_⟩) (by first | trivial | assumption) ?_
      rotate_left
      · (intro w hSw; (try dsimp only at hSw); go_simp; try with_reducible rfl)
      try simp only [Act.put, G5o0, List.setIfInBounds_toArray, List.set_cons_zero, List.set_cons_succ]
      refine wpAnyH_take (i := 1) (oi := G5o1) (v := ?_) rfl G5ns (by kernel_rfl) (by kernel_rfl) (fun _ _ _ h => h) (Or.inl ⟨by rfl, ?_⟩) (by first | trivial | assumption) ?_
      rotate_left
      · (intro w hSw; (try dsimp only at hSw); go_simp; try with_reducible rfl)
      try simp only [Act.put, G5o1, List.setIfInBounds_toArray, List.set_cons_zero, List.set_cons_succ]
      refine wpAnyH_take (i := 2) (oi := G5o2) (v := ?_) rfl G5ns (by kernel_rfl) (by kernel_rfl) (fun _ _ _ h => h) (Or.inl ⟨by rfl, ?_⟩) (by first | trivial | assumption) ?_
      rotate_left
      · (intro w hSw; (try dsimp only at hSw); go_simp; try with_reducible rfl)
      try simp only [Act.put, G5o2, List.setIfInBounds_toArray, List.set_cons_zero, List.set_cons_succ]
      refine wpAnyH_take (i := 5) (oi := G5o5) (v := ?_) rfl G5ns (by kernel_rfl) (by kernel_rfl) (fun _ _ _ h => h) (Or.inl ⟨by rfl, ?_⟩) (by first | trivial | assumption) ?_
      rotate_left
      · (intro w hSw; (try dsimp only at hSw); go_simp; try with_reducible rfl)
      try simp only [Act.put, G5o5, List.setIfInBounds_toArray, List.set_cons_zero, List.set_cons_succ]
      refine wpAnyH_take (i := 6) (oi := G5o6) (v := ?_) rfl G5ns (by kernel_rfl) (by kernel_rfl) (fun _ _ _ h => h) (Or.inl ⟨by rfl, ?_⟩) (by first | trivial | assumption) ?_
      rotate_left
      · (intro w hSw; (try dsimp only at hSw); go_simp; try with_reducible rfl)
      try simp only [Act.put, G5o6, List.setIfInBounds_toArray, List.set_cons_zero, List.set_cons_succ]
      refine wpAnyH_take (i := 7) (oi := G5o7) (v := ?_) rfl G5ns (by kernel_rfl) (by kernel_rfl) (fun _ _ _ h => h) (Or.inl ⟨by rfl, ?_⟩) (by first | trivial | assumption) ?_
      rotate_left
      · (intro w hSw; (try dsimp only at hSw); go_simp; try with_reducible rfl)
      try simp only [Act.put, G5o7, List.setIfInBounds_toArray, List.set_cons_zero, List.set_cons_succ]
      refine wpAnyH_take (i := 9) (oi := G5o9) (v := ?_) rfl G5ns (by kernel_rfl) (by kernel_rfl) (fun _ _ _ h => h) (Or.inl ⟨by rfl, ?_⟩) (by first | trivial | assumption) ?_
      rotate_left
      · (intro w hSw; (try dsimp only at hSw); go_simp; try with_reducible rfl)
      try simp only [Act.put, G5o9, List.setIfInBounds_toArray, List.set_cons_zero, List.set_cons_succ]
      refine wpAnyH_ready (rs := [3, 10]) (by kernel_rfl) (by simp) ?_
      refine AllReadyH.cons (o := G5o3) rfl ?_ (AllReadyH.cons (o := G5o10) rfl ?_ (AllReadyH.nil))
      · intro K' hK
        rw [if_pos (by rfl)]
        go_simp
        refine hK.out _ _ ?_ (fun hS => ?_)
        · (repeat (first | assumption | (with_reducible apply bel_drew) | (with_reducible apply bel_alloc)))
        try simp only [Act.put, G5o3, List.setIfInBounds_toArray, List.set_cons_zero, List.set_cons_succ]
        refine wpAnyH_ready (rs := [4, 10]) (by kernel_rfl) (by simp) ?_
        refine AllReadyH.cons (o := G5o4) rfl ?_ (AllReadyH.cons (o := G5o10) rfl ?_ (AllReadyH.nil))
        · intro K' hK
          rw [if_pos (by rfl)]
          go_simp
          (with_reducible refine (sum1_at S1 _ _ _ (b.take k) (H1.out.symm) ?_).mono ?_)
          · focus ((repeat (first | (with_reducible apply RL.drew) | ((with_reducible refine RL.one _ ?_ HSV1.out ?_ HLK.out.symm); (focus ((repeat (first | exact Hb1W.out | (with_reducible apply RB.alloc))); done)); (focus (simp; done))) | (with_reducible apply RL.alloc))); done)
          rintro e w' ⟨rfl, rfl⟩
          refine hK.out _ _ ?_ (fun hS => ?_)
          · (repeat (first | assumption | (with_reducible apply bel_drew) | (with_reducible apply bel_alloc)))
          try simp only [Act.put, G5o4, List.setIfInBounds_toArray, List.set_cons_zero, List.set_cons_succ]
          refine wpAnyH_ready (rs := [8, 10]) (by kernel_rfl) (by simp) ?_
          refine AllReadyH.cons (o := G5o8) rfl ?_ (AllReadyH.cons (o := G5o10) rfl ?_ (AllReadyH.nil))
          · intro K' hK
            rw [if_pos (by rfl)]
            go_simp
            (with_reducible refine (more_len S0 S1 HS1.out _ _ _ (b.drop k) HLD.out _ ?_ HM10.out).mono ?_)
            · focus ((repeat (first | exact Hb2W.out | (with_reducible apply RB.drew) | (with_reducible apply RB.alloc))); done)
            rintro e w' ⟨rfl, rfl⟩
            refine hK.out _ _ ?_ (fun hS => ?_)
            · (repeat (first | assumption | (with_reducible apply bel_drew) | (with_reducible apply bel_alloc)))
            try simp only [Act.put, G5o8, List.setIfInBounds_toArray, List.set_cons_zero, List.set_cons_succ]
            refine wpAnyH_ready (rs := [10]) (by kernel_rfl) (by simp) ?_
            refine AllReadyH.cons (o := G5o10) rfl ?_ (AllReadyH.nil)
            · intro K' hK
              rw [if_pos (by rfl)]
              go_simp
              refine hK.out _ _ ?_ (fun hS => ?_)
              · (repeat (first | assumption | (with_reducible apply bel_drew) | (with_reducible apply bel_alloc)))
              try simp only [Act.put, G5o10, List.setIfInBounds_toArray, List.set_cons_zero, List.set_cons_succ]
              refine wpAnyH_ready (rs := [11]) (by kernel_rfl) (by simp) ?_
              refine AllReadyH.cons (o := G5o11) rfl ?_ (AllReadyH.nil)
              · intro K' hK
                rw [if_pos (by rfl)]
                go_simp
                (with_reducible refine (sum1_at S0 _ _ _ b (H0.out.symm) ?_).mono ?_)
                · focus ((repeat (first | (with_reducible apply RL.drew) | ((with_reducible refine RL.one _ ?_ HC.out ?_ rfl); (focus ((repeat (first | exact HbW.out | (with_reducible apply RB.alloc))); done)); (focus (simp; done))) | (with_reducible apply RL.alloc))); done)
                rintro e w' ⟨rfl, rfl⟩
                refine hK.out _ _ ?_ (fun hS => ?_)
                · (repeat (first | assumption | (with_reducible apply bel_drew) | (with_reducible apply bel_alloc)))
                try simp only [Act.put, G5o11, List.setIfInBounds_toArray, List.set_cons_zero, List.set_cons_succ]
                refine wpAnyH_take (i := 12) (oi := G5o12) (v := ?_) rfl G5ns (by kernel_rfl) (by kernel_rfl) (fun _ _ _ h => h) (Or.inl ⟨by rfl, ?_⟩) (by first | trivial | assumption) ?_
                rotate_left
                · (intro w hSw; (try dsimp only at hSw); go_simp; try with_reducible rfl)
                try simp only [Act.put, G5o12, List.setIfInBounds_toArray, List.set_cons_zero, List.set_cons_succ]
                refine wpAnyH_take (i := 13) (oi := G5o13) (v := ?_) rfl G5ns (by kernel_rfl) (by kernel_rfl) (fun _ _ _ h => h) (Or.inl ⟨by rfl, ?_⟩) (by first | trivial | assumption) ?_
                rotate_left
                · (intro w hSw; (try dsimp only at hSw); go_simp; try with_reducible rfl)
                try simp only [Act.put, G5o13, List.setIfInBounds_toArray, List.set_cons_zero, List.set_cons_succ]
                refine wpAnyH_take (i := 14) (oi := G5o14) (v := ?_) rfl G5ns (by kernel_rfl) (by kernel_rfl) (fun _ _ _ h => h) (Or.inl ⟨by rfl, ?_⟩) (by first | trivial | assumption) ?_
                rotate_left
                · (intro w hSw; (try dsimp only at hSw); go_simp; try with_reducible rfl)
                try simp only [Act.put, G5o14, List.setIfInBounds_toArray, List.set_cons_zero, List.set_cons_succ]
                refine wpAnyH_take (i := 15) (oi := G5o15) (v := ?_) rfl G5ns (by kernel_rfl) (by kernel_rfl) (fun _ _ _ h => h) (Or.inl ⟨by rfl, ?_⟩) (by first | trivial | assumption) ?_
                rotate_left
                · (intro w hSw; (try dsimp only at hSw); go_simp; try with_reducible rfl)
                try simp only [Act.put, G5o15, List.setIfInBounds_toArray, List.set_cons_zero, List.set_cons_succ]
                refine wpAnyH_take (i := 16) (oi := G5o16) (v := ?_) rfl G5ns (by kernel_rfl) (by kernel_rfl) (fun _ _ _ h => h) (Or.inl ⟨by rfl, ?_⟩) (by first | trivial | assumption) ?_
                rotate_left
                · (intro w hSw; (try dsimp only at hSw); go_simp; try with_reducible rfl)
                try simp only [Act.put, G5o16, List.setIfInBounds_toArray, List.set_cons_zero, List.set_cons_succ]
                refine wpAnyH_take (i := 19) (oi := G5o19) (v := ?_) rfl G5ns (by kernel_rfl) (by kernel_rfl) (fun _ _ _ h => h) (Or.inl ⟨by rfl, ?_⟩) (by first | trivial | assumption) ?_
                rotate_left
                · (intro w hSw; (try dsimp only at hSw); go_simp; try with_reducible rfl)
                try simp only [Act.put, G5o19, List.setIfInBounds_toArray, List.set_cons_zero, List.set_cons_succ]
                refine wpAnyH_take (i := 20) (oi := G5o20) (v := ?_) rfl G5ns (by kernel_rfl) (by kernel_rfl) (fun _ _ _ h => h) (Or.inl ⟨by rfl, ?_⟩) (by first | trivial | assumption) ?_
                rotate_left
                · (intro w hSw; (try dsimp only at hSw); go_simp; try with_reducible rfl)
                try simp only [Act.put, G5o20, List.setIfInBounds_toArray, List.set_cons_zero, List.set_cons_succ]
                refine wpAnyH_take (i := 21) (oi := G5o21) (v := ?_) rfl G5ns (by kernel_rfl) (by kernel_rfl) (fun _ _ _ h => h) (Or.inl ⟨by rfl, ?_⟩) (by first | trivial | assumption) ?_
                rotate_left
                · (intro w hSw; (try dsimp only at hSw); go_simp; try with_reducible rfl)
                try simp only [Act.put, G5o21, List.setIfInBounds_toArray, List.set_cons_zero, List.set_cons_succ]
                refine wpAnyH_take (i := 23) (oi := G5o23) (v := ?_) rfl G5ns (by kernel_rfl) (by kernel_rfl) (fun _ _ _ h => h) (Or.inl ⟨by rfl, ?_⟩) (by first | trivial | assumption) ?_
                rotate_left
                · (intro w hSw; (try dsimp only at hSw); go_simp; try with_reducible rfl)
                try simp only [Act.put, G5o23, List.setIfInBounds_toArray, List.set_cons_zero, List.set_cons_succ]
                refine wpAnyH_take (i := 25) (oi := G5o25) (v := ?_) rfl G5ns (by kernel_rfl) (by kernel_rfl) (fun _ _ _ h => h) (Or.inl ⟨by rfl, ?_⟩) (by first | trivial | assumption) ?_
                rotate_left
                · (intro w hSw; (try dsimp only at hSw); go_simp; try with_reducible rfl)
                try simp only [Act.put, G5o25, List.setIfInBounds_toArray, List.set_cons_zero, List.set_cons_succ]
                refine wpAnyH_ready (rs := [17]) (by kernel_rfl) (by simp) ?_
                refine AllReadyH.cons (o := G5o17) rfl ?_ (AllReadyH.nil)
                · intro K' hK
                  rw [if_pos (by rfl)]
                  go_simp
                  refine hK.out _ _ ?_ (fun hS => ?_)
                  · (repeat (first | assumption | (with_reducible apply bel_drew) | (with_reducible apply bel_alloc)))
                  try simp only [Act.put, G5o17, List.setIfInBounds_toArray, List.set_cons_zero, List.set_cons_succ]
                  refine wpAnyH_ready (rs := [18]) (by kernel_rfl) (by simp) ?_
                  refine AllReadyH.cons (o := G5o18) rfl ?_ (AllReadyH.nil)
                  · intro K' hK
                    rw [if_pos (by rfl)]
                    go_simp
                    (with_reducible refine (sum1_at S1 _ _ _ (b.take k) (H1.out.symm) ?_).mono ?_)
                    · focus ((repeat (first | (with_reducible apply RL.drew) | ((with_reducible refine RL.one _ ?_ HSV1.out ?_ HLK.out.symm); (focus ((repeat (first | exact Hb1W.out | (with_reducible apply RB.alloc))); done)); (focus (simp; done))) | (with_reducible apply RL.alloc))); done)
                    rintro e w' ⟨rfl, rfl⟩
                    refine hK.out _ _ ?_ (fun hS => ?_)
                    · (repeat (first | assumption | (with_reducible apply bel_drew) | (with_reducible apply bel_alloc)))
                    try simp only [Act.put, G5o18, List.setIfInBounds_toArray, List.set_cons_zero, List.set_cons_succ]
                    refine wpAnyH_ready (rs := [22]) (by kernel_rfl) (by simp) ?_
                    refine AllReadyH.cons (o := G5o22) rfl ?_ (AllReadyH.nil)
                    · intro K' hK
                      rw [if_pos (by rfl)]
                      go_simp
                      (with_reducible refine (more_len S0 S1 HS1.out _ _ _ (b.drop k) HLD.out _ ?_ HM10.out).mono ?_)
                      · focus ((repeat (first | exact Hb2W.out | (with_reducible apply RB.drew) | (with_reducible apply RB.alloc))); done)
                      rintro e w' ⟨rfl, rfl⟩
                      refine hK.out _ _ ?_ (fun hS => ?_)
                      · (repeat (first | assumption | (with_reducible apply bel_drew) | (with_reducible apply bel_alloc)))
                      try simp only [Act.put, G5o22, List.setIfInBounds_toArray, List.set_cons_zero, List.set_cons_succ]
                      refine wpAnyH_ready (rs := [24]) (by kernel_rfl) (by simp) ?_
                      refine AllReadyH.cons (o := G5o24) rfl ?_ (AllReadyH.nil)
                      · intro K' hK
                        rw [if_pos (by rfl)]
                        go_simp
                        (with_reducible refine (more_at S2 S0 HS0.out _ _ m _ ?_ HM02.out).mono ?_)
                        · focus ((repeat (first | exact HMW.out | (with_reducible apply RB.drew) | (with_reducible apply RB.alloc))); done)
                        rintro e w' ⟨rfl, rfl⟩
                        refine hK.out _ _ ?_ (fun hS => ?_)
                        · (repeat (first | assumption | (with_reducible apply bel_drew) | (with_reducible apply bel_alloc)))
                        try simp only [Act.put, G5o24, List.setIfInBounds_toArray, List.set_cons_zero, List.set_cons_succ]
                        refine wpAnyH_take (i := 26) (oi := G5o26) (v := ?_) rfl G5ns (by kernel_rfl) (by kernel_rfl) (fun _ _ _ h => h) (Or.inl ⟨by rfl, ?_⟩) (by first | trivial | assumption) ?_
                        rotate_left
                        · (intro w hSw; (try dsimp only at hSw); go_simp; try with_reducible rfl)
                        try simp only [Act.put, G5o26, List.setIfInBounds_toArray, List.set_cons_zero, List.set_cons_succ]
                        refine wpAnyH_take (i := 27) (oi := G5o27) (v := ?_) rfl G5ns (by kernel_rfl) (by kernel_rfl) (fun _ _ _ h => h) (Or.inl ⟨by rfl, ?_⟩) (by first | trivial | assumption) ?_
                        rotate_left
                        · (intro w hSw; (try dsimp only at hSw); go_simp; try with_reducible rfl)
                        try simp only [Act.put, G5o27, List.setIfInBounds_toArray, List.set_cons_zero, List.set_cons_succ]
                        refine wpAnyH_take (i := 28) (oi := G5o28) (v := ?_) rfl G5ns (by kernel_rfl) (by kernel_rfl) (fun _ _ _ h => h) (Or.inl ⟨by rfl, ?_⟩) (by first | trivial | assumption) ?_
                        rotate_left
                        · (intro w hSw; (try dsimp only at hSw); go_simp; try with_reducible rfl)
                        try simp only [Act.put, G5o28, List.setIfInBounds_toArray, List.set_cons_zero, List.set_cons_succ]
                        refine wpAnyH_take (i := 29) (oi := G5o29) (v := ?_) rfl G5ns (by kernel_rfl) (by kernel_rfl) (fun _ _ _ h => h) (Or.inl ⟨by rfl, ?_⟩) (by first | trivial | assumption) ?_
                        rotate_left
                        · (intro w hSw; (try dsimp only at hSw); go_simp; try with_reducible rfl)
                        try simp only [Act.put, G5o29, List.setIfInBounds_toArray, List.set_cons_zero, List.set_cons_succ]
                        refine wpAnyH_take (i := 31) (oi := G5o31) (v := ?_) rfl G5ns (by kernel_rfl) (by kernel_rfl) (fun _ _ _ h => h) (Or.inl ⟨by rfl, ?_⟩) (by first | trivial | assumption) ?_
                        rotate_left
                        · (intro w hSw; (try dsimp only at hSw); go_simp; try with_reducible rfl)
                        try simp only [Act.put, G5o31, List.setIfInBounds_toArray, List.set_cons_zero, List.set_cons_succ]
                        refine wpAnyH_ready (rs := [30]) (by kernel_rfl) (by simp) ?_
                        refine AllReadyH.cons (o := G5o30) rfl ?_ (AllReadyH.nil)
                        · intro K' hK
                          rw [if_pos (by rfl)]
                          go_simp
                          (with_reducible refine (more_len S2 S2 HS2.out none 0 0 [] rfl _ (RB.nil _ _) (Crc.more_nil _)).mono ?_)
                          rintro e w' ⟨rfl, rfl⟩
                          refine hK.out _ _ ?_ (fun hS => ?_)
                          · (repeat (first | assumption | (with_reducible apply bel_drew) | (with_reducible apply bel_alloc)))
                          try simp only [Act.put, G5o30, List.setIfInBounds_toArray, List.set_cons_zero, List.set_cons_succ]
                          refine wpAnyH_take (i := 32) (oi := G5o32) (v := ?_) rfl G5ns (by kernel_rfl) (by kernel_rfl) (fun _ _ _ h => h) (Or.inl ⟨by rfl, ?_⟩) (by first | trivial | assumption) ?_
                          rotate_left
                          · (intro w hSw; (try dsimp only at hSw); go_simp; try with_reducible rfl)
                          try simp only [Act.put, G5o32, List.setIfInBounds_toArray, List.set_cons_zero, List.set_cons_succ]
                          refine wpAnyH_take (i := 33) (oi := G5o33) (v := ?_) rfl G5ns (by kernel_rfl) (by kernel_rfl) (fun _ _ _ h => h) (Or.inl ⟨by rfl, ?_⟩) (by first | trivial | assumption) ?_
                          rotate_left
                          · (intro w hSw; (try dsimp only at hSw); go_simp; try with_reducible rfl)
                          try simp only [Act.put, G5o33, List.setIfInBounds_toArray, List.set_cons_zero, List.set_cons_succ]
                          refine wpAnyH_take (i := 34) (oi := G5o34) (v := ?_) rfl G5ns (by kernel_rfl) (by kernel_rfl) (fun _ _ _ h => h) (Or.inl ⟨by rfl, ?_⟩) (by first | trivial | assumption) ?_
                          rotate_left
                          · (intro w hSw; (try dsimp only at hSw); go_simp; try with_reducible rfl)
                          try simp only [Act.put, G5o34, List.setIfInBounds_toArray, List.set_cons_zero, List.set_cons_succ]
                          refine wpAnyH_take (i := 35) (oi := G5o35) (v := ?_) rfl G5ns (by kernel_rfl) (by kernel_rfl) (fun _ _ _ h => h) (Or.inl ⟨by rfl, ?_⟩) (by first | trivial | assumption) ?_
                          rotate_left
                          · (intro w hSw; (try dsimp only at hSw); go_simp; try with_reducible rfl)
                          try simp only [Act.put, G5o35, List.setIfInBounds_toArray, List.set_cons_zero, List.set_cons_succ]
                          refine wpAnyH_take (i := 37) (oi := G5o37) (v := ?_) rfl G5ns (by kernel_rfl) (by kernel_rfl) (fun _ _ _ h => h) (Or.inl ⟨by rfl, ?_⟩) (by first | trivial | assumption) ?_
                          rotate_left
                          · (intro w hSw; (try dsimp only at hSw); go_simp; try with_reducible rfl)
                          try simp only [Act.put, G5o37, List.setIfInBounds_toArray, List.set_cons_zero, List.set_cons_succ]
                          refine wpAnyH_take (i := 39) (oi := G5o39) (v := ?_) rfl G5ns (by kernel_rfl) (by kernel_rfl) (fun _ _ _ h => h) (Or.inl ⟨by rfl, ?_⟩) (by first | trivial | assumption) ?_
                          rotate_left
                          · (intro w hSw; (try dsimp only at hSw); go_simp; try with_reducible rfl)
                          try simp only [Act.put, G5o39, List.setIfInBounds_toArray, List.set_cons_zero, List.set_cons_succ]
                          refine wpAnyH_ready (rs := [36]) (by kernel_rfl) (by simp) ?_
                          refine AllReadyH.cons (o := G5o36) rfl ?_ (AllReadyH.nil)
                          · intro K' hK
                            rw [if_pos (by rfl)]
                            go_simp
                            refine hK.out _ _ ?_ (fun hS => ?_)
                            · (repeat (first | assumption | (with_reducible apply bel_drew) | (with_reducible apply bel_alloc)))
                            try simp only [Act.put, G5o36, List.setIfInBounds_toArray, List.set_cons_zero, List.set_cons_succ]
                            refine wpAnyH_ready (rs := [38]) (by kernel_rfl) (by simp) ?_
                            refine AllReadyH.cons (o := G5o38) rfl ?_ (AllReadyH.nil)
                            · intro K' hK
                              refine step_app_bytes rfl _ _ 24 rfl w.heap.size 5 Try.underlying24 info5 _ [] rfl ?_ _ _ b rfl HC.out.2 ?_ (by simp; omega) ?_ ?_
                              · refine (OB.empty _ _ 5 ?_ _ ?_).drew
                                · have := HB.out.size; simp; omega
                                · simp
                              · focus ((repeat (first | exact HbW.out | (with_reducible apply RB.drew) | (with_reducible apply RB.alloc))); done)
                              · exact hS.size
                              intro v1 w1 ho1 hg1 _
                              rw [List.nil_append] at ho1
                              have HO1 := Lib.hid ho1
                              have hB1 := bel_grown hS hg1 (fun k e => by have := HB.out.size; simp [Value.ownBlock, Act.eval] at e; omega)
                              have HM1 : Hid (RB w1 B m) := HM.out.below hB1
                              clear ho1 hg1
                              refine hK.out _ _ ?_ (fun hS => ?_)
                              · exact hB1
                              try simp only [Act.put, G5o38, List.setIfInBounds_toArray, List.set_cons_zero, List.set_cons_succ]
                              refine wpAnyH_ready (rs := [40]) (by kernel_rfl) (by simp) ?_
                              refine AllReadyH.cons (o := G5o40) rfl ?_ (AllReadyH.nil)
                              · intro K' hK
                                refine step_app_bytes rfl _ _ 24 rfl w.heap.size 5 Try.underlying24 info5 _ b rfl HO1.out _ _ m rfl HCM.out.2 HM1.out (by omega) hS.size ?_
                                intro v2 w2 ho2 hg2 _
                                rw [← HBM.out] at ho2
                                have hB2 := bel_grown hS hg2 (fun k e => HO1.out.base_ k e)
                                obtain ⟨A2, c2, hv2, hsv2, hrb2⟩ := ho2.reads
                                subst hv2
                                have HSV2 := Lib.hid hsv2
                                have HRB2 := Lib.hid hrb2
                                clear ho2 hg2 hsv2 hrb2
                                refine hK.out _ _ ?_ (fun hS => ?_)
                                · exact hB2
                                try simp only [Act.put, G5o40, List.setIfInBounds_toArray, List.set_cons_zero, List.set_cons_succ]
                                refine wpAnyH_ready (rs := [41]) (by kernel_rfl) (by simp) ?_
                                refine AllReadyH.cons (o := G5o41) rfl ?_ (AllReadyH.nil)
                                · intro K' hK
                                  rw [if_pos (by rfl)]
                                  go_simp
                                  (with_reducible refine (same_len true S2 _ _ _ bm ?_ _ HRB2.out HSV2.out HSB.out).mono ?_)
                                  · first | rfl | exact HBMl.out.symm
                                  rintro e w3 ⟨rfl, hw3⟩
                                  have hB3 := bel_then hS hw3
                                  clear hw3
                                  refine hK.out _ _ ?_ (fun hS => ?_)
                                  · exact hB3
                                  try simp only [Act.put, G5o41, List.setIfInBounds_toArray, List.set_cons_zero, List.set_cons_succ]
                                  refine wpAnyH_take (i := 42) (oi := G5o42) (v := ?_) rfl G5ns (by kernel_rfl) (by kernel_rfl) (fun _ _ _ h => h) (Or.inl ⟨by rfl, ?_⟩) (by first | trivial | assumption) ?_
                                  rotate_left
                                  · (intro w hSw; (try dsimp only at hSw); go_simp; try with_reducible rfl)
                                  try simp only [Act.put, G5o42, List.setIfInBounds_toArray, List.set_cons_zero, List.set_cons_succ]
                                  refine wpAnyH_take (i := 43) (oi := G5o43) (v := ?_) rfl G5ns (by kernel_rfl) (by kernel_rfl) (fun _ _ _ h => h) (Or.inl ⟨by rfl, ?_⟩) (by first | trivial | assumption) ?_
                                  rotate_left
                                  · (intro w hSw; (try dsimp only at hSw); go_simp; try with_reducible rfl)
                                  try simp only [Act.put, G5o43, List.setIfInBounds_toArray, List.set_cons_zero, List.set_cons_succ]
                                  refine wpAnyH_ready (rs := [44]) (by kernel_rfl) (by simp) ?_
                                  refine AllReadyH.cons (o := G5o44) rfl ?_ (AllReadyH.nil)
                                  · intro K' hK
                                    rw [if_pos (by rfl)]
                                    go_simp
                                    (with_reducible refine (awake_any _).mono ?_)
                                    rintro e w4 ⟨rfl, hw4⟩
                                    have hB4 := bel_then hS hw4
                                    clear hw4
                                    refine hK.out _ _ ?_ (fun hS => ?_)
                                    · exact hB4
                                    try simp only [Act.put, G5o44, List.setIfInBounds_toArray, List.set_cons_zero, List.set_cons_succ]
                                    refine wpAnyH_take (i := 45) (oi := G5o45) (v := ?_) rfl G5ns (by kernel_rfl) (by kernel_rfl) (fun _ _ _ h => h) (Or.inl ⟨by rfl, ?_⟩) (by first | trivial | assumption) ?_
                                    rotate_left
                                    · (intro w hSw; (try dsimp only at hSw); go_simp; try with_reducible rfl)
                                    try simp only [Act.put, G5o45, List.setIfInBounds_toArray, List.set_cons_zero, List.set_cons_succ]
                                    refine wpAnyH_take (i := 46) (oi := G5o46) (v := ?_) rfl G5ns (by kernel_rfl) (by kernel_rfl) (fun _ _ _ h => h) (Or.inl ⟨by rfl, ?_⟩) (by first | trivial | assumption) ?_
                                    rotate_left
                                    · (intro w hSw; (try dsimp only at hSw); go_simp; try with_reducible rfl)
                                    try simp only [Act.put, G5o46, List.setIfInBounds_toArray, List.set_cons_zero, List.set_cons_succ]
                                    refine wpAnyH_done (by kernel_rfl) ?_ _
                                    go_wp2
                                    go_ret
                                    exact ⟨rfl, hS⟩
          · intro K' hK
            rw [if_pos (by rfl)]
            go_simp
            refine hK.out _ _ ?_ (fun hS => ?_)
            · (repeat (first | assumption | (with_reducible apply bel_drew) | (with_reducible apply bel_alloc)))
            try simp only [Act.put, G5o10, List.setIfInBounds_toArray, List.set_cons_zero, List.set_cons_succ]
            refine wpAnyH_ready (rs := [8]) (by kernel_rfl) (by simp) ?_
            refine AllReadyH.cons (o := G5o8) rfl ?_ (AllReadyH.nil)
            · intro K' hK
              rw [if_pos (by rfl)]
              go_simp
              (with_reducible refine (more_len S0 S1 HS1.out _ _ _ (b.drop k) HLD.out _ ?_ HM10.out).mono ?_)
              · focus ((repeat (first | exact Hb2W.out | (with_reducible apply RB.drew) | (with_reducible apply RB.alloc))); done)
              rintro e w' ⟨rfl, rfl⟩
              refine hK.out _ _ ?_ (fun hS => ?_)
              · (repeat (first | assumption | (with_reducible apply bel_drew) | (with_reducible apply bel_alloc)))
              try simp only [Act.put, G5o8, List.setIfInBounds_toArray, List.set_cons_zero, List.set_cons_succ]
              refine wpAnyH_ready (rs := [11]) (by kernel_rfl) (by simp) ?_
              refine AllReadyH.cons (o := G5o11) rfl ?_ (AllReadyH.nil)
              · intro K' hK
                rw [if_pos (by rfl)]
                go_simp
                (with_reducible refine (sum1_at S0 _ _ _ b (H0.out.symm) ?_).mono ?_)
                · focus ((repeat (first | (with_reducible apply RL.drew) | ((with_reducible refine RL.one _ ?_ HC.out ?_ rfl); (focus ((repeat (first | exact HbW.out | (with_reducible apply RB.alloc))); done)); (focus (simp; done))) | (with_reducible apply RL.alloc))); done)
                rintro e w' ⟨rfl, rfl⟩
                refine hK.out _ _ ?_ (fun hS => ?_)
                · (repeat (first | assumption | (with_reducible apply bel_drew) | (with_reducible apply bel_alloc)))
                try simp only [Act.put, G5o11, List.setIfInBounds_toArray, List.set_cons_zero, List.set_cons_succ]
                refine wpAnyH_take (i := 12) (oi := G5o12) (v := ?_) rfl G5ns (by kernel_rfl) (by kernel_rfl) (fun _ _ _ h => h) (Or.inl ⟨by rfl, ?_⟩) (by first | trivial | assumption) ?_
                rotate_left
                · (intro w hSw; (try dsimp only at hSw); go_simp; try with_reducible rfl)
                try simp only [Act.put, G5o12, List.setIfInBounds_toArray, List.set_cons_zero, List.set_cons_succ]
                refine wpAnyH_take (i := 13) (oi := G5o13) (v := ?_) rfl G5ns (by kernel_rfl) (by kernel_rfl) (fun _ _ _ h => h) (Or.inl ⟨by rfl, ?_⟩) (by first | trivial | assumption) ?_
                rotate_left
                · (intro w hSw; (try dsimp only at hSw); go_simp; try with_reducible rfl)
                try simp only [Act.put, G5o13, List.setIfInBounds_toArray, List.set_cons_zero, List.set_cons_succ]
                refine wpAnyH_take (i := 14) (oi := G5o14) (v := ?_) rfl G5ns (by kernel_rfl) (by kernel_rfl) (fun _ _ _ h => h) (Or.inl ⟨by rfl, ?_⟩) (by first | trivial | assumption) ?_
                rotate_left
                · (intro w hSw; (try dsimp only at hSw); go_simp; try with_reducible rfl)
                try simp only [Act.put, G5o14, List.setIfInBounds_toArray, List.set_cons_zero, List.set_cons_succ]
                refine wpAnyH_take (i := 15) (oi := G5o15) (v := ?_) rfl G5ns (by kernel_rfl) (by kernel_rfl) (fun _ _ _ h => h) (Or.inl ⟨by rfl, ?_⟩) (by first | trivial | assumption) ?_
                rotate_left
                · (intro w hSw; (try dsimp only at hSw); go_simp; try with_reducible rfl)
                try simp only [Act.put, G5o15, List.setIfInBounds_toArray, List.set_cons_zero, List.set_cons_succ]
                refine wpAnyH_take (i := 16) (oi := G5o16) (v := ?_) rfl G5ns (by kernel_rfl) (by kernel_rfl) (fun _ _ _ h => h) (Or.inl ⟨by rfl, ?_⟩) (by first | trivial | assumption) ?_
                rotate_left
                · (intro w hSw; (try dsimp only at hSw); go_simp; try with_reducible rfl)
                try simp only [Act.put, G5o16, List.setIfInBounds_toArray, List.set_cons_zero, List.set_cons_succ]
                refine wpAnyH_take (i := 19) (oi := G5o19) (v := ?_) rfl G5ns (by kernel_rfl) (by kernel_rfl) (fun _ _ _ h => h) (Or.inl ⟨by rfl, ?_⟩) (by first | trivial | assumption) ?_
                rotate_left
                · (intro w hSw; (try dsimp only at hSw); go_simp; try with_reducible rfl)
                try simp only [Act.put, G5o19, List.setIfInBounds_toArray, List.set_cons_zero, List.set_cons_succ]
                refine wpAnyH_take (i := 20) (oi := G5o20) (v := ?_) rfl G5ns (by kernel_rfl) (by kernel_rfl) (fun _ _ _ h => h) (Or.inl ⟨by rfl, ?_⟩) (by first | trivial | assumption) ?_
                rotate_left
                · (intro w hSw; (try dsimp only at hSw); go_simp; try with_reducible rfl)
                try simp only [Act.put, G5o20, List.setIfInBounds_toArray, List.set_cons_zero, List.set_cons_succ]
                refine wpAnyH_take (i := 21) (oi := G5o21) (v := ?_) rfl G5ns (by kernel_rfl) (by kernel_rfl) (fun _ _ _ h => h) (Or.inl ⟨by rfl, ?_⟩) (by first | trivial | assumption) ?_
                rotate_left
                · (intro w hSw; (try dsimp only at hSw); go_simp; try with_reducible rfl)
                try simp only [Act.put, G5o21, List.setIfInBounds_toArray, List.set_cons_zero, List.set_cons_succ]
                refine wpAnyH_take (i := 23) (oi := G5o23) (v := ?_) rfl G5ns (by kernel_rfl) (by kernel_rfl) (fun _ _ _ h => h) (Or.inl ⟨by rfl, ?_⟩) (by first | trivial | assumption) ?_
                rotate_left
                · (intro w hSw; (try dsimp only at hSw); go_simp; try with_reducible rfl)
                try simp only [Act.put, G5o23, List.setIfInBounds_toArray, List.set_cons_zero, List.set_cons_succ]
                refine wpAnyH_take (i := 25) (oi := G5o25) (v := ?_) rfl G5ns (by kernel_rfl) (by kernel_rfl) (fun _ _ _ h => h) (Or.inl ⟨by rfl, ?_⟩) (by first | trivial | assumption) ?_
                rotate_left
                · (intro w hSw; (try dsimp only at hSw); go_simp; try with_reducible rfl)
                try simp only [Act.put, G5o25, List.setIfInBounds_toArray, List.set_cons_zero, List.set_cons_succ]
                refine wpAnyH_ready (rs := [17]) (by kernel_rfl) (by simp) ?_
                refine AllReadyH.cons (o := G5o17) rfl ?_ (AllReadyH.nil)
                · intro K' hK
                  rw [if_pos (by rfl)]
                  go_simp
                  refine hK.out _ _ ?_ (fun hS => ?_)
                  · (repeat (first | assumption | (with_reducible apply bel_drew) | (with_reducible apply bel_alloc)))
                  try simp only [Act.put, G5o17, List.setIfInBounds_toArray, List.set_cons_zero, List.set_cons_succ]
                  refine wpAnyH_ready (rs := [18]) (by kernel_rfl) (by simp) ?_
                  refine AllReadyH.cons (o := G5o18) rfl ?_ (AllReadyH.nil)
                  · intro K' hK
                    rw [if_pos (by rfl)]
                    go_simp
                    (with_reducible refine (sum1_at S1 _ _ _ (b.take k) (H1.out.symm) ?_).mono ?_)
                    · focus ((repeat (first | (with_reducible apply RL.drew) | ((with_reducible refine RL.one _ ?_ HSV1.out ?_ HLK.out.symm); (focus ((repeat (first | exact Hb1W.out | (with_reducible apply RB.alloc))); done)); (focus (simp; done))) | (with_reducible apply RL.alloc))); done)
                    rintro e w' ⟨rfl, rfl⟩
                    refine hK.out _ _ ?_ (fun hS => ?_)
                    · (repeat (first | assumption | (with_reducible apply bel_drew) | (with_reducible apply bel_alloc)))
                    try simp only [Act.put, G5o18, List.setIfInBounds_toArray, List.set_cons_zero, List.set_cons_succ]
                    refine wpAnyH_ready (rs := [22]) (by kernel_rfl) (by simp) ?_
                    refine AllReadyH.cons (o := G5o22) rfl ?_ (AllReadyH.nil)
                    · intro K' hK
                      rw [if_pos (by rfl)]
                      go_simp
                      (with_reducible refine (more_len S0 S1 HS1.out _ _ _ (b.drop k) HLD.out _ ?_ HM10.out).mono ?_)
                      · focus ((repeat (first | exact Hb2W.out | (with_reducible apply RB.drew) | (with_reducible apply RB.alloc))); done)
                      rintro e w' ⟨rfl, rfl⟩
                      refine hK.out _ _ ?_ (fun hS => ?_)
                      · (repeat (first | assumption | (with_reducible apply bel_drew) | (with_reducible apply bel_alloc)))
                      try simp only [Act.put, G5o22, List.setIfInBounds_toArray, List.set_cons_zero, List.set_cons_succ]
                      refine wpAnyH_ready (rs := [24]) (by kernel_rfl) (by simp) ?_
                      refine AllReadyH.cons (o := G5o24) rfl ?_ (AllReadyH.nil)
                      · intro K' hK
                        rw [if_pos (by rfl)]
                        go_simp
                        (with_reducible refine (more_at S2 S0 HS0.out _ _ m _ ?_ HM02.out).mono ?_)
                        · focus ((repeat (first | exact HMW.out | (with_reducible apply RB.drew) | (with_reducible apply RB.alloc))); done)
                        rintro e w' ⟨rfl, rfl⟩
                        refine hK.out _ _ ?_ (fun hS => ?_)
                        · (repeat (first | assumption | (with_reducible apply bel_drew) | (with_reducible apply bel_alloc)))
                        try simp only [Act.put, G5o24, List.setIfInBounds_toArray, List.set_cons_zero, List.set_cons_succ]
                        refine wpAnyH_take (i := 26) (oi := G5o26) (v := ?_) rfl G5ns (by kernel_rfl) (by kernel_rfl) (fun _ _ _ h => h) (Or.inl ⟨by rfl, ?_⟩) (by first | trivial | assumption) ?_
                        rotate_left
                        · (intro w hSw; (try dsimp only at hSw); go_simp; try with_reducible rfl)
                        try simp only [Act.put, G5o26, List.setIfInBounds_toArray, List.set_cons_zero, List.set_cons_succ]
                        refine wpAnyH_take (i := 27) (oi := G5o27) (v := ?_) rfl G5ns (by kernel_rfl) (by kernel_rfl) (fun _ _ _ h => h) (Or.inl ⟨by rfl, ?_⟩) (by first | trivial | assumption) ?_
                        rotate_left
                        · (intro w hSw; (try dsimp only at hSw); go_simp; try with_reducible rfl)
                        try simp only [Act.put, G5o27, List.setIfInBounds_toArray, List.set_cons_zero, List.set_cons_succ]
                        refine wpAnyH_take (i := 28) (oi := G5o28) (v := ?_) rfl G5ns (by kernel_rfl) (by kernel_rfl) (fun _ _ _ h => h) (Or.inl ⟨by rfl, ?_⟩) (by first | trivial | assumption) ?_
                        rotate_left
                        · (intro w hSw; (try dsimp only at hSw); go_simp; try with_reducible rfl)
                        try simp only [Act.put, G5o28, List.setIfInBounds_toArray, List.set_cons_zero, List.set_cons_succ]
                        refine wpAnyH_take (i := 29) (oi := G5o29) (v := ?_) rfl G5ns (by kernel_rfl) (by kernel_rfl) (fun _ _ _ h => h) (Or.inl ⟨by rfl, ?_⟩) (by first | trivial | assumption) ?_
                        rotate_left
                        · (intro w hSw; (try dsimp only at hSw); go_simp; try with_reducible rfl)
                        try simp only [Act.put, G5o29, List.setIfInBounds_toArray, List.set_cons_zero, List.set_cons_succ]
                        refine wpAnyH_take (i := 31) (oi := G5o31) (v := ?_) rfl G5ns (by kernel_rfl) (by kernel_rfl) (fun _ _ _ h => h) (Or.inl ⟨by rfl, ?_⟩) (by first | trivial | assumption) ?_
                        rotate_left
                        · (intro w hSw; (try dsimp only at hSw); go_simp; try with_reducible rfl)
                        try simp only [Act.put, G5o31, List.setIfInBounds_toArray, List.set_cons_zero, List.set_cons_succ]
                        refine wpAnyH_ready (rs := [30]) (by kernel_rfl) (by simp) ?_
                        refine AllReadyH.cons (o := G5o30) rfl ?_ (AllReadyH.nil)
                        · intro K' hK
                          rw [if_pos (by rfl)]
                          go_simp
                          (with_reducible refine (more_len S2 S2 HS2.out none 0 0 [] rfl _ (RB.nil _ _) (Crc.more_nil _)).mono ?_)
                          rintro e w' ⟨rfl, rfl⟩
                          refine hK.out _ _ ?_ (fun hS => ?_)
                          · (repeat (first | assumption | (with_reducible apply bel_drew) | (with_reducible apply bel_alloc)))
                          try simp only [Act.put, G5o30, List.setIfInBounds_toArray, List.set_cons_zero, List.set_cons_succ]
                          refine wpAnyH_take (i := 32) (oi := G5o32) (v := ?_) rfl G5ns (by kernel_rfl) (by kernel_rfl) (fun _ _ _ h => h) (Or.inl ⟨by rfl, ?_⟩) (by first | trivial | assumption) ?_
                          rotate_left
                          · (intro w hSw; (try dsimp only at hSw); go_simp; try with_reducible rfl)
                          try simp only [Act.put, G5o32, List.setIfInBounds_toArray, List.set_cons_zero, List.set_cons_succ]
                          refine wpAnyH_take (i := 33) (oi := G5o33) (v := ?_) rfl G5ns (by kernel_rfl) (by kernel_rfl) (fun _ _ _ h => h) (Or.inl ⟨by rfl, ?_⟩) (by first | trivial | assumption) ?_
                          rotate_left
                          · (intro w hSw; (try dsimp only at hSw); go_simp; try with_reducible rfl)
                          try simp only [Act.put, G5o33, List.setIfInBounds_toArray, List.set_cons_zero, List.set_cons_succ]
                          refine wpAnyH_take (i := 34) (oi := G5o34) (v := ?_) rfl G5ns (by kernel_rfl) (by kernel_rfl) (fun _ _ _ h => h) (Or.inl ⟨by rfl, ?_⟩) (by first | trivial | assumption) ?_
                          rotate_left
                          · (intro w hSw; (try dsimp only at hSw); go_simp; try with_reducible rfl)
                          try simp only [Act.put, G5o34, List.setIfInBounds_toArray, List.set_cons_zero, List.set_cons_succ]
                          refine wpAnyH_take (i := 35) (oi := G5o35) (v := ?_) rfl G5ns (by kernel_rfl) (by kernel_rfl) (fun _ _ _ h => h) (Or.inl ⟨by rfl, ?_⟩) (by first | trivial | assumption) ?_
                          rotate_left
                          · (intro w hSw; (try dsimp only at hSw); go_simp; try with_reducible rfl)
                          try simp only [Act.put, G5o35, List.setIfInBounds_toArray, List.set_cons_zero, List.set_cons_succ]
                          refine wpAnyH_take (i := 37) (oi := G5o37) (v := ?_) rfl G5ns (by kernel_rfl) (by kernel_rfl) (fun _ _ _ h => h) (Or.inl ⟨by rfl, ?_⟩) (by first | trivial | assumption) ?_
                          rotate_left
                          · (intro w hSw; (try dsimp only at hSw); go_simp; try with_reducible rfl)
                          try simp only [Act.put, G5o37, List.setIfInBounds_toArray, List.set_cons_zero, List.set_cons_succ]
                          refine wpAnyH_take (i := 39) (oi := G5o39) (v := ?_) rfl G5ns (by kernel_rfl) (by kernel_rfl) (fun _ _ _ h => h) (Or.inl ⟨by rfl, ?_⟩) (by first | trivial | assumption) ?_
                          rotate_left
                          · (intro w hSw; (try dsimp only at hSw); go_simp; try with_reducible rfl)
                          try simp only [Act.put, G5o39, List.setIfInBounds_toArray, List.set_cons_zero, List.set_cons_succ]
                          refine wpAnyH_ready (rs := [36]) (by kernel_rfl) (by simp) ?_
                          refine AllReadyH.cons (o := G5o36) rfl ?_ (AllReadyH.nil)
                          · intro K' hK
                            rw [if_pos (by rfl)]
                            go_simp
                            refine hK.out _ _ ?_ (fun hS => ?_)
                            · (repeat (first | assumption | (with_reducible apply bel_drew) | (with_reducible apply bel_alloc)))
                            try simp only [Act.put, G5o36, List.setIfInBounds_toArray, List.set_cons_zero, List.set_cons_succ]
                            refine wpAnyH_ready (rs := [38]) (by kernel_rfl) (by simp) ?_
                            refine AllReadyH.cons (o := G5o38) rfl ?_ (AllReadyH.nil)
                            · intro K' hK
                              refine step_app_bytes rfl _ _ 24 rfl w.heap.size 5 Try.underlying24 info5 _ [] rfl ?_ _ _ b rfl HC.out.2 ?_ (by simp; omega) ?_ ?_
                              · refine (OB.empty _ _ 5 ?_ _ ?_).drew
                                · have := HB.out.size; simp; omega
                                · simp
                              · focus ((repeat (first | exact HbW.out | (with_reducible apply RB.drew) | (with_reducible apply RB.alloc))); done)
                              · exact hS.size
                              intro v1 w1 ho1 hg1 _
                              rw [List.nil_append] at ho1
                              have HO1 := Lib.hid ho1
                              have hB1 := bel_grown hS hg1 (fun k e => by have := HB.out.size; simp [Value.ownBlock, Act.eval] at e; omega)
                              have HM1 : Hid (RB w1 B m) := HM.out.below hB1
                              clear ho1 hg1
                              refine hK.out _ _ ?_ (fun hS => ?_)
                              · exact hB1
                              try simp only [Act.put, G5o38, List.setIfInBounds_toArray, List.set_cons_zero, List.set_cons_succ]
                              refine wpAnyH_ready (rs := [40]) (by kernel_rfl) (by simp) ?_
                              refine AllReadyH.cons (o := G5o40) rfl ?_ (AllReadyH.nil)
                              · intro K' hK
                                refine step_app_bytes rfl _ _ 24 rfl w.heap.size 5 Try.underlying24 info5 _ b rfl HO1.out _ _ m rfl HCM.out.2 HM1.out (by omega) hS.size ?_
                                intro v2 w2 ho2 hg2 _
                                rw [← HBM.out] at ho2
                                have hB2 := bel_grown hS hg2 (fun k e => HO1.out.base_ k e)
                                obtain ⟨A2, c2, hv2, hsv2, hrb2⟩ := ho2.reads
                                subst hv2
                                have HSV2 := Lib.hid hsv2
                                have HRB2 := Lib.hid hrb2
                                clear ho2 hg2 hsv2 hrb2
                                refine hK.out _ _ ?_ (fun hS => ?_)
                                · exact hB2
                                try simp only [Act.put, G5o40, List.setIfInBounds_toArray, List.set_cons_zero, List.set_cons_succ]
                                refine wpAnyH_ready (rs := [41]) (by kernel_rfl) (by simp) ?_
                                refine AllReadyH.cons (o := G5o41) rfl ?_ (AllReadyH.nil)
                                · intro K' hK
                                  rw [if_pos (by rfl)]
                                  go_simp
                                  (with_reducible refine (same_len true S2 _ _ _ bm ?_ _ HRB2.out HSV2.out HSB.out).mono ?_)
                                  · first | rfl | exact HBMl.out.symm
                                  rintro e w3 ⟨rfl, hw3⟩
                                  have hB3 := bel_then hS hw3
                                  clear hw3
                                  refine hK.out _ _ ?_ (fun hS => ?_)
                                  · exact hB3
                                  try simp only [Act.put, G5o41, List.setIfInBounds_toArray, List.set_cons_zero, List.set_cons_succ]
                                  refine wpAnyH_take (i := 42) (oi := G5o42) (v := ?_) rfl G5ns (by kernel_rfl) (by kernel_rfl) (fun _ _ _ h => h) (Or.inl ⟨by rfl, ?_⟩) (by first | trivial | assumption) ?_
                                  rotate_left
                                  · (intro w hSw; (try dsimp only at hSw); go_simp; try with_reducible rfl)
                                  try simp only [Act.put, G5o42, List.setIfInBounds_toArray, List.set_cons_zero, List.set_cons_succ]
                                  refine wpAnyH_take (i := 43) (oi := G5o43) (v := ?_) rfl G5ns (by kernel_rfl) (by kernel_rfl) (fun _ _ _ h => h) (Or.inl ⟨by rfl, ?_⟩) (by first | trivial | assumption) ?_
                                  rotate_left
                                  · (intro w hSw; (try dsimp only at hSw); go_simp; try with_reducible rfl)
                                  try simp only [Act.put, G5o43, List.setIfInBounds_toArray, List.set_cons_zero, List.set_cons_succ]
                                  refine wpAnyH_ready (rs := [44]) (by kernel_rfl) (by simp) ?_
                                  refine AllReadyH.cons (o := G5o44) rfl ?_ (AllReadyH.nil)
                                  · intro K' hK
                                    rw [if_pos (by rfl)]
                                    go_simp
                                    (with_reducible refine (awake_any _).mono ?_)
                                    rintro e w4 ⟨rfl, hw4⟩
                                    have hB4 := bel_then hS hw4
                                    clear hw4
                                    refine hK.out _ _ ?_ (fun hS => ?_)
                                    · exact hB4
                                    try simp only [Act.put, G5o44, List.setIfInBounds_toArray, List.set_cons_zero, List.set_cons_succ]
                                    refine wpAnyH_take (i := 45) (oi := G5o45) (v := ?_) rfl G5ns (by kernel_rfl) (by kernel_rfl) (fun _ _ _ h => h) (Or.inl ⟨by rfl, ?_⟩) (by first | trivial | assumption) ?_
                                    rotate_left
                                    · (intro w hSw; (try dsimp only at hSw); go_simp; try with_reducible rfl)
                                    try simp only [Act.put, G5o45, List.setIfInBounds_toArray, List.set_cons_zero, List.set_cons_succ]
                                    refine wpAnyH_take (i := 46) (oi := G5o46) (v := ?_) rfl G5ns (by kernel_rfl) (by kernel_rfl) (fun _ _ _ h => h) (Or.inl ⟨by rfl, ?_⟩) (by first | trivial | assumption) ?_
                                    rotate_left
                                    · (intro w hSw; (try dsimp only at hSw); go_simp; try with_reducible rfl)
                                    try simp only [Act.put, G5o46, List.setIfInBounds_toArray, List.set_cons_zero, List.set_cons_succ]
                                    refine wpAnyH_done (by kernel_rfl) ?_ _
                                    go_wp2
                                    go_ret
                                    exact ⟨rfl, hS⟩
        · intro K' hK
          rw [if_pos (by rfl)]
          go_simp
          refine hK.out _ _ ?_ (fun hS => ?_)
          · (repeat (first | assumption | (with_reducible apply bel_drew) | (with_reducible apply bel_alloc)))
          try simp only [Act.put, G5o10, List.setIfInBounds_toArray, List.set_cons_zero, List.set_cons_succ]
          refine wpAnyH_ready (rs := [4]) (by kernel_rfl) (by simp) ?_
          refine AllReadyH.cons (o := G5o4) rfl ?_ (AllReadyH.nil)
          · intro K' hK
            rw [if_pos (by rfl)]
            go_simp
            (with_reducible refine (sum1_at S1 _ _ _ (b.take k) (H1.out.symm) ?_).mono ?_)
            · focus ((repeat (first | (with_reducible apply RL.drew) | ((with_reducible refine RL.one _ ?_ HSV1.out ?_ HLK.out.symm); (focus ((repeat (first | exact Hb1W.out | (with_reducible apply RB.alloc))); done)); (focus (simp; done))) | (with_reducible apply RL.alloc))); done)
            rintro e w' ⟨rfl, rfl⟩
            refine hK.out _ _ ?_ (fun hS => ?_)
            · (repeat (first | assumption | (with_reducible apply bel_drew) | (with_reducible apply bel_alloc)))
            try simp only [Act.put, G5o4, List.setIfInBounds_toArray, List.set_cons_zero, List.set_cons_succ]
            refine wpAnyH_ready (rs := [8]) (by kernel_rfl) (by simp) ?_
            refine AllReadyH.cons (o := G5o8) rfl ?_ (AllReadyH.nil)
            · intro K' hK
              rw [if_pos (by rfl)]
              go_simp
              (with_reducible refine (more_len S0 S1 HS1.out _ _ _ (b.drop k) HLD.out _ ?_ HM10.out).mono ?_)
              · focus ((repeat (first | exact Hb2W.out | (with_reducible apply RB.drew) | (with_reducible apply RB.alloc))); done)
              rintro e w' ⟨rfl, rfl⟩
              refine hK.out _ _ ?_ (fun hS => ?_)
              · (repeat (first | assumption | (with_reducible apply bel_drew) | (with_reducible apply bel_alloc)))
              try simp only [Act.put, G5o8, List.setIfInBounds_toArray, List.set_cons_zero, List.set_cons_succ]
              refine wpAnyH_ready (rs := [11]) (by kernel_rfl) (by simp) ?_
              refine AllReadyH.cons (o := G5o11) rfl ?_ (AllReadyH.nil)
              · intro K' hK
                rw [if_pos (by rfl)]
                go_simp
                (with_reducible refine (sum1_at S0 _ _ _ b (H0.out.symm) ?_).mono ?_)
                · focus ((repeat (first | (with_reducible apply RL.drew) | ((with_reducible refine RL.one _ ?_ HC.out ?_ rfl); (focus ((repeat (first | exact HbW.out | (with_reducible apply RB.alloc))); done)); (focus (simp; done))) | (with_reducible apply RL.alloc))); done)
                rintro e w' ⟨rfl, rfl⟩
                refine hK.out _ _ ?_ (fun hS => ?_)
                · (repeat (first | assumption | (with_reducible apply bel_drew) | (with_reducible apply bel_alloc)))
                try simp only [Act.put, G5o11, List.setIfInBounds_toArray, List.set_cons_zero, List.set_cons_succ]
                refine wpAnyH_take (i := 12) (oi := G5o12) (v := ?_) rfl G5ns (by kernel_rfl) (by kernel_rfl) (fun _ _ _ h => h) (Or.inl ⟨by rfl, ?_⟩) (by first | trivial | assumption) ?_
                rotate_left
                · (intro w hSw; (try dsimp only at hSw); go_simp; try with_reducible rfl)
                try simp only [Act.put, G5o12, List.setIfInBounds_toArray, List.set_cons_zero, List.set_cons_succ]
                refine wpAnyH_take (i := 13) (oi := G5o13) (v := ?_) rfl G5ns (by kernel_rfl) (by kernel_rfl) (fun _ _ _ h => h) (Or.inl ⟨by rfl, ?_⟩) (by first | trivial | assumption) ?_
                rotate_left
                · (intro w hSw; (try dsimp only at hSw); go_simp; try with_reducible rfl)
                try simp only [Act.put, G5o13, List.setIfInBounds_toArray, List.set_cons_zero, List.set_cons_succ]
                refine wpAnyH_take (i := 14) (oi := G5o14) (v := ?_) rfl G5ns (by kernel_rfl) (by kernel_rfl) (fun _ _ _ h => h) (Or.inl ⟨by rfl, ?_⟩) (by first | trivial | assumption) ?_
                rotate_left
                · (intro w hSw; (try dsimp only at hSw); go_simp; try with_reducible rfl)
                try simp only [Act.put, G5o14, List.setIfInBounds_toArray, List.set_cons_zero, List.set_cons_succ]
                refine wpAnyH_take (i := 15) (oi := G5o15) (v := ?_) rfl G5ns (by kernel_rfl) (by kernel_rfl) (fun _ _ _ h => h) (Or.inl ⟨by rfl, ?_⟩) (by first | trivial | assumption) ?_
                rotate_left
                · (intro w hSw; (try dsimp only at hSw); go_simp; try with_reducible rfl)
                try simp only [Act.put, G5o15, List.setIfInBounds_toArray, List.set_cons_zero, List.set_cons_succ]
                refine wpAnyH_take (i := 16) (oi := G5o16) (v := ?_) rfl G5ns (by kernel_rfl) (by kernel_rfl) (fun _ _ _ h => h) (Or.inl ⟨by rfl, ?_⟩) (by first | trivial | assumption) ?_
                rotate_left
                · (intro w hSw; (try dsimp only at hSw); go_simp; try with_reducible rfl)
                try simp only [Act.put, G5o16, List.setIfInBounds_toArray, List.set_cons_zero, List.set_cons_succ]
                refine wpAnyH_take (i := 19) (oi := G5o19) (v := ?_) rfl G5ns (by kernel_rfl) (by kernel_rfl) (fun _ _ _ h => h) (Or.inl ⟨by rfl, ?_⟩) (by first | trivial | assumption) ?_
                rotate_left
                · (intro w hSw; (try dsimp only at hSw); go_simp; try with_reducible rfl)
                try simp only [Act.put, G5o19, List.setIfInBounds_toArray, List.set_cons_zero, List.set_cons_succ]
                refine wpAnyH_take (i := 20) (oi := G5o20) (v := ?_) rfl G5ns (by kernel_rfl) (by kernel_rfl) (fun _ _ _ h => h) (Or.inl ⟨by rfl, ?_⟩) (by first | trivial | assumption) ?_
                rotate_left
                · (intro w hSw; (try dsimp only at hSw); go_simp; try with_reducible rfl)
                try simp only [Act.put, G5o20, List.setIfInBounds_toArray, List.set_cons_zero, List.set_cons_succ]
                refine wpAnyH_take (i := 21) (oi := G5o21) (v := ?_) rfl G5ns (by kernel_rfl) (by kernel_rfl) (fun _ _ _ h => h) (Or.inl ⟨by rfl, ?_⟩) (by first | trivial | assumption) ?_
                rotate_left
                · (intro w hSw; (try dsimp only at hSw); go_simp; try with_reducible rfl)
                try simp only [Act.put, G5o21, List.setIfInBounds_toArray, List.set_cons_zero, List.set_cons_succ]
                refine wpAnyH_take (i := 23) (oi := G5o23) (v := ?_) rfl G5ns (by kernel_rfl) (by kernel_rfl) (fun _ _ _ h => h) (Or.inl ⟨by rfl, ?_⟩) (by first | trivial | assumption) ?_
                rotate_left
                · (intro w hSw; (try dsimp only at hSw); go_simp; try with_reducible rfl)
                try simp only [Act.put, G5o23, List.setIfInBounds_toArray, List.set_cons_zero, List.set_cons_succ]
                refine wpAnyH_take (i := 25) (oi := G5o25) (v := ?_) rfl G5ns (by kernel_rfl) (by kernel_rfl) (fun _ _ _ h => h) (Or.inl ⟨by rfl, ?_⟩) (by first | trivial | assumption) ?_
                rotate_left
                · (intro w hSw; (try dsimp only at hSw); go_simp; try with_reducible rfl)
                try simp only [Act.put, G5o25, List.setIfInBounds_toArray, List.set_cons_zero, List.set_cons_succ]
                refine wpAnyH_ready (rs := [17]) (by kernel_rfl) (by simp) ?_
                refine AllReadyH.cons (o := G5o17) rfl ?_ (AllReadyH.nil)
                · intro K' hK
                  rw [if_pos (by rfl)]
                  go_simp
                  refine hK.out _ _ ?_ (fun hS => ?_)
                  · (repeat (first | assumption | (with_reducible apply bel_drew) | (with_reducible apply bel_alloc)))
                  try simp only [Act.put, G5o17, List.setIfInBounds_toArray, List.set_cons_zero, List.set_cons_succ]
                  refine wpAnyH_ready (rs := [18]) (by kernel_rfl) (by simp) ?_
                  refine AllReadyH.cons (o := G5o18) rfl ?_ (AllReadyH.nil)
                  · intro K' hK
                    rw [if_pos (by rfl)]
                    go_simp
                    (with_reducible refine (sum1_at S1 _ _ _ (b.take k) (H1.out.symm) ?_).mono ?_)
                    · focus ((repeat (first | (with_reducible apply RL.drew) | ((with_reducible refine RL.one _ ?_ HSV1.out ?_ HLK.out.symm); (focus ((repeat (first | exact Hb1W.out | (with_reducible apply RB.alloc))); done)); (focus (simp; done))) | (with_reducible apply RL.alloc))); done)
                    rintro e w' ⟨rfl, rfl⟩
                    refine hK.out _ _ ?_ (fun hS => ?_)
                    · (repeat (first | assumption | (with_reducible apply bel_drew) | (with_reducible apply bel_alloc)))
                    try simp only [Act.put, G5o18, List.setIfInBounds_toArray, List.set_cons_zero, List.set_cons_succ]
                    refine wpAnyH_ready (rs := [22]) (by kernel_rfl) (by simp) ?_
                    refine AllReadyH.cons (o := G5o22) rfl ?_ (AllReadyH.nil)
                    · intro K' hK
                      rw [if_pos (by rfl)]
                      go_simp
                      (with_reducible refine (more_len S0 S1 HS1.out _ _ _ (b.drop k) HLD.out _ ?_ HM10.out).mono ?_)
                      · focus ((repeat (first | exact Hb2W.out | (with_reducible apply RB.drew) | (with_reducible apply RB.alloc))); done)
                      rintro e w' ⟨rfl, rfl⟩
                      refine hK.out _ _ ?_ (fun hS => ?_)
                      · (repeat (first | assumption | (with_reducible apply bel_drew) | (with_reducible apply bel_alloc)))
                      try simp only [Act.put, G5o22, List.setIfInBounds_toArray, List.set_cons_zero, List.set_cons_succ]
                      refine wpAnyH_ready (rs := [24]) (by kernel_rfl) (by simp) ?_
                      refine AllReadyH.cons (o := G5o24) rfl ?_ (AllReadyH.nil)
                      · intro K' hK
                        rw [if_pos (by rfl)]
                        go_simp
                        (with_reducible refine (more_at S2 S0 HS0.out _ _ m _ ?_ HM02.out).mono ?_)
                        · focus ((repeat (first | exact HMW.out | (with_reducible apply RB.drew) | (with_reducible apply RB.alloc))); done)
                        rintro e w' ⟨rfl, rfl⟩
                        refine hK.out _ _ ?_ (fun hS => ?_)
                        · (repeat (first | assumption | (with_reducible apply bel_drew) | (with_reducible apply bel_alloc)))
                        try simp only [Act.put, G5o24, List.setIfInBounds_toArray, List.set_cons_zero, List.set_cons_succ]
                        refine wpAnyH_take (i := 26) (oi := G5o26) (v := ?_) rfl G5ns (by kernel_rfl) (by kernel_rfl) (fun _ _ _ h => h) (Or.inl ⟨by rfl, ?_⟩) (by first | trivial | assumption) ?_
                        rotate_left
                        · (intro w hSw; (try dsimp only at hSw); go_simp; try with_reducible rfl)
                        try simp only [Act.put, G5o26, List.setIfInBounds_toArray, List.set_cons_zero, List.set_cons_succ]
                        refine wpAnyH_take (i := 27) (oi := G5o27) (v := ?_) rfl G5ns (by kernel_rfl) (by kernel_rfl) (fun _ _ _ h => h) (Or.inl ⟨by rfl, ?_⟩) (by first | trivial | assumption) ?_
                        rotate_left
                        · (intro w hSw; (try dsimp only at hSw); go_simp; try with_reducible rfl)
                        try simp only [Act.put, G5o27, List.setIfInBounds_toArray, List.set_cons_zero, List.set_cons_succ]
                        refine wpAnyH_take (i := 28) (oi := G5o28) (v := ?_) rfl G5ns (by kernel_rfl) (by kernel_rfl) (fun _ _ _ h => h) (Or.inl ⟨by rfl, ?_⟩) (by first | trivial | assumption) ?_
                        rotate_left
                        · (intro w hSw; (try dsimp only at hSw); go_simp; try with_reducible rfl)
                        try simp only [Act.put, G5o28, List.setIfInBounds_toArray, List.set_cons_zero, List.set_cons_succ]
                        refine wpAnyH_take (i := 29) (oi := G5o29) (v := ?_) rfl G5ns (by kernel_rfl) (by kernel_rfl) (fun _ _ _ h => h) (Or.inl ⟨by rfl, ?_⟩) (by first | trivial | assumption) ?_
                        rotate_left
                        · (intro w hSw; (try dsimp only at hSw); go_simp; try with_reducible rfl)
                        try simp only [Act.put, G5o29, List.setIfInBounds_toArray, List.set_cons_zero, List.set_cons_succ]
                        refine wpAnyH_take (i := 31) (oi := G5o31) (v := ?_) rfl G5ns (by kernel_rfl) (by kernel_rfl) (fun _ _ _ h => h) (Or.inl ⟨by rfl, ?_⟩) (by first | trivial | assumption) ?_
                        rotate_left
                        · (intro w hSw; (try dsimp only at hSw); go_simp; try with_reducible rfl)
                        try simp only [Act.put, G5o31, List.setIfInBounds_toArray, List.set_cons_zero, List.set_cons_succ]
                        refine wpAnyH_ready (rs := [30]) (by kernel_rfl) (by simp) ?_
                        refine AllReadyH.cons (o := G5o30) rfl ?_ (AllReadyH.nil)
                        · intro K' hK
                          rw [if_pos (by rfl)]
                          go_simp
                          (with_reducible refine (more_len S2 S2 HS2.out none 0 0 [] rfl _ (RB.nil _ _) (Crc.more_nil _)).mono ?_)
                          rintro e w' ⟨rfl, rfl⟩
                          refine hK.out _ _ ?_ (fun hS => ?_)
                          · (repeat (first | assumption | (with_reducible apply bel_drew) | (with_reducible apply bel_alloc)))
                          try simp only [Act.put, G5o30, List.setIfInBounds_toArray, List.set_cons_zero, List.set_cons_succ]
                          refine wpAnyH_take (i := 32) (oi := G5o32) (v := ?_) rfl G5ns (by kernel_rfl) (by kernel_rfl) (fun _ _ _ h => h) (Or.inl ⟨by rfl, ?_⟩) (by first | trivial | assumption) ?_
                          rotate_left
                          · (intro w hSw; (try dsimp only at hSw); go_simp; try with_reducible rfl)
                          try simp only [Act.put, G5o32, List.setIfInBounds_toArray, List.set_cons_zero, List.set_cons_succ]
                          refine wpAnyH_take (i := 33) (oi := G5o33) (v := ?_) rfl G5ns (by kernel_rfl) (by kernel_rfl) (fun _ _ _ h => h) (Or.inl ⟨by rfl, ?_⟩) (by first | trivial | assumption) ?_
                          rotate_left
                          · (intro w hSw; (try dsimp only at hSw); go_simp; try with_reducible rfl)
                          try simp only [Act.put, G5o33, List.setIfInBounds_toArray, List.set_cons_zero, List.set_cons_succ]
                          refine wpAnyH_take (i := 34) (oi := G5o34) (v := ?_) rfl G5ns (by kernel_rfl) (by kernel_rfl) (fun _ _ _ h => h) (Or.inl ⟨by rfl, ?_⟩) (by first | trivial | assumption) ?_
                          rotate_left
                          · (intro w hSw; (try dsimp only at hSw); go_simp; try with_reducible rfl)
                          try simp only [Act.put, G5o34, List.setIfInBounds_toArray, List.set_cons_zero, List.set_cons_succ]
                          refine wpAnyH_take (i := 35) (oi := G5o35) (v := ?_) rfl G5ns (by kernel_rfl) (by kernel_rfl) (fun _ _ _ h => h) (Or.inl ⟨by rfl, ?_⟩) (by first | trivial | assumption) ?_
                          rotate_left
                          · (intro w hSw; (try dsimp only at hSw); go_simp; try with_reducible rfl)
                          try simp only [Act.put, G5o35, List.setIfInBounds_toArray, List.set_cons_zero, List.set_cons_succ]
                          refine wpAnyH_take (i := 37) (oi := G5o37) (v := ?_) rfl G5ns (by kernel_rfl) (by kernel_rfl) (fun _ _ _ h => h) (Or.inl ⟨by rfl, ?_⟩) (by first | trivial | assumption) ?_
                          rotate_left
                          · (intro w hSw; (try dsimp only at hSw); go_simp; try with_reducible rfl)
                          try simp only [Act.put, G5o37, List.setIfInBounds_toArray, List.set_cons_zero, List.set_cons_succ]
                          refine wpAnyH_take (i := 39) (oi := G5o39) (v := ?_) rfl G5ns (by kernel_rfl) (by kernel_rfl) (fun _ _ _ h => h) (Or.inl ⟨by rfl, ?_⟩) (by first | trivial | assumption) ?_
                          rotate_left
                          · (intro w hSw; (try dsimp only at hSw); go_simp; try with_reducible rfl)
                          try simp only [Act.put, G5o39, List.setIfInBounds_toArray, List.set_cons_zero, List.set_cons_succ]
                          refine wpAnyH_ready (rs := [36]) (by kernel_rfl) (by simp) ?_
                          refine AllReadyH.cons (o := G5o36) rfl ?_ (AllReadyH.nil)
                          · intro K' hK
                            rw [if_pos (by rfl)]
                            go_simp
                            refine hK.out _ _ ?_ (fun hS => ?_)
                            · (repeat (first | assumption | (with_reducible apply bel_drew) | (with_reducible apply bel_alloc)))
                            try simp only [Act.put, G5o36, List.setIfInBounds_toArray, List.set_cons_zero, List.set_cons_succ]
                            refine wpAnyH_ready (rs := [38]) (by kernel_rfl) (by simp) ?_
                            refine AllReadyH.cons (o := G5o38) rfl ?_ (AllReadyH.nil)
                            · intro K' hK
                              refine step_app_bytes rfl _ _ 24 rfl w.heap.size 5 Try.underlying24 info5 _ [] rfl ?_ _ _ b rfl HC.out.2 ?_ (by simp; omega) ?_ ?_
                              · refine (OB.empty _ _ 5 ?_ _ ?_).drew
                                · have := HB.out.size; simp; omega
                                · simp
                              · focus ((repeat (first | exact HbW.out | (with_reducible apply RB.drew) | (with_reducible apply RB.alloc))); done)
                              · exact hS.size
                              intro v1 w1 ho1 hg1 _
                              rw [List.nil_append] at ho1
                              have HO1 := Lib.hid ho1
                              have hB1 := bel_grown hS hg1 (fun k e => by have := HB.out.size; simp [Value.ownBlock, Act.eval] at e; omega)
                              have HM1 : Hid (RB w1 B m) := HM.out.below hB1
                              clear ho1 hg1
                              refine hK.out _ _ ?_ (fun hS => ?_)
                              · exact hB1
                              try simp only [Act.put, G5o38, List.setIfInBounds_toArray, List.set_cons_zero, List.set_cons_succ]
                              refine wpAnyH_ready (rs := [40]) (by kernel_rfl) (by simp) ?_
                              refine AllReadyH.cons (o := G5o40) rfl ?_ (AllReadyH.nil)
                              · intro K' hK
                                refine step_app_bytes rfl _ _ 24 rfl w.heap.size 5 Try.underlying24 info5 _ b rfl HO1.out _ _ m rfl HCM.out.2 HM1.out (by omega) hS.size ?_
                                intro v2 w2 ho2 hg2 _
                                rw [← HBM.out] at ho2
                                have hB2 := bel_grown hS hg2 (fun k e => HO1.out.base_ k e)
                                obtain ⟨A2, c2, hv2, hsv2, hrb2⟩ := ho2.reads
                                subst hv2
                                have HSV2 := Lib.hid hsv2
                                have HRB2 := Lib.hid hrb2
                                clear ho2 hg2 hsv2 hrb2
                                refine hK.out _ _ ?_ (fun hS => ?_)
                                · exact hB2
                                try simp only [Act.put, G5o40, List.setIfInBounds_toArray, List.set_cons_zero, List.set_cons_succ]
                                refine wpAnyH_ready (rs := [41]) (by kernel_rfl) (by simp) ?_
                                refine AllReadyH.cons (o := G5o41) rfl ?_ (AllReadyH.nil)
                                · intro K' hK
                                  rw [if_pos (by rfl)]
                                  go_simp
                                  (with_reducible refine (same_len true S2 _ _ _ bm ?_ _ HRB2.out HSV2.out HSB.out).mono ?_)
                                  · first | rfl | exact HBMl.out.symm
                                  rintro e w3 ⟨rfl, hw3⟩
                                  have hB3 := bel_then hS hw3
                                  clear hw3
                                  refine hK.out _ _ ?_ (fun hS => ?_)
                                  · exact hB3
                                  try simp only [Act.put, G5o41, List.setIfInBounds_toArray, List.set_cons_zero, List.set_cons_succ]
                                  refine wpAnyH_take (i := 42) (oi := G5o42) (v := ?_) rfl G5ns (by kernel_rfl) (by kernel_rfl) (fun _ _ _ h => h) (Or.inl ⟨by rfl, ?_⟩) (by first | trivial | assumption) ?_
                                  rotate_left
                                  · (intro w hSw; (try dsimp only at hSw); go_simp; try with_reducible rfl)
                                  try simp only [Act.put, G5o42, List.setIfInBounds_toArray, List.set_cons_zero, List.set_cons_succ]
                                  refine wpAnyH_take (i := 43) (oi := G5o43) (v := ?_) rfl G5ns (by kernel_rfl) (by kernel_rfl) (fun _ _ _ h => h) (Or.inl ⟨by rfl, ?_⟩) (by first | trivial | assumption) ?_
                                  rotate_left
                                  · (intro w hSw; (try dsimp only at hSw); go_simp; try with_reducible rfl)
                                  try simp only [Act.put, G5o43, List.setIfInBounds_toArray, List.set_cons_zero, List.set_cons_succ]
                                  refine wpAnyH_ready (rs := [44]) (by kernel_rfl) (by simp) ?_
                                  refine AllReadyH.cons (o := G5o44) rfl ?_ (AllReadyH.nil)
                                  · intro K' hK
                                    rw [if_pos (by rfl)]
                                    go_simp
                                    (with_reducible refine (awake_any _).mono ?_)
                                    rintro e w4 ⟨rfl, hw4⟩
                                    have hB4 := bel_then hS hw4
                                    clear hw4
                                    refine hK.out _ _ ?_ (fun hS => ?_)
                                    · exact hB4
                                    try simp only [Act.put, G5o44, List.setIfInBounds_toArray, List.set_cons_zero, List.set_cons_succ]
                                    refine wpAnyH_take (i := 45) (oi := G5o45) (v := ?_) rfl G5ns (by kernel_rfl) (by kernel_rfl) (fun _ _ _ h => h) (Or.inl ⟨by rfl, ?_⟩) (by first | trivial | assumption) ?_
                                    rotate_left
                                    · (intro w hSw; (try dsimp only at hSw); go_simp; try with_reducible rfl)
                                    try simp only [Act.put, G5o45, List.setIfInBounds_toArray, List.set_cons_zero, List.set_cons_succ]
                                    refine wpAnyH_take (i := 46) (oi := G5o46) (v := ?_) rfl G5ns (by kernel_rfl) (by kernel_rfl) (fun _ _ _ h => h) (Or.inl ⟨by rfl, ?_⟩) (by first | trivial | assumption) ?_
                                    rotate_left
                                    · (intro w hSw; (try dsimp only at hSw); go_simp; try with_reducible rfl)
                                    try simp only [Act.put, G5o46, List.setIfInBounds_toArray, List.set_cons_zero, List.set_cons_succ]
                                    refine wpAnyH_done (by kernel_rfl) ?_ _
                                    go_wp2
                                    go_ret
                                    exact ⟨rfl, hS⟩
      · intro K' hK
        rw [if_pos (by rfl)]
        go_simp
        refine hK.out _ _ ?_ (fun hS => ?_)
        · (repeat (first | assumption | (with_reducible apply bel_drew) | (with_reducible apply bel_alloc)))
        try simp only [Act.put, G5o10, List.setIfInBounds_toArray, List.set_cons_zero, List.set_cons_succ]
        refine wpAnyH_ready (rs := [3]) (by kernel_rfl) (by simp) ?_
        refine AllReadyH.cons (o := G5o3) rfl ?_ (AllReadyH.nil)
        · intro K' hK
          rw [if_pos (by rfl)]
          go_simp
          refine hK.out _ _ ?_ (fun hS => ?_)
          · (repeat (first | assumption | (with_reducible apply bel_drew) | (with_reducible apply bel_alloc)))
          try simp only [Act.put, G5o3, List.setIfInBounds_toArray, List.set_cons_zero, List.set_cons_succ]
          refine wpAnyH_ready (rs := [4]) (by kernel_rfl) (by simp) ?_
          refine AllReadyH.cons (o := G5o4) rfl ?_ (AllReadyH.nil)
          · intro K' hK
            rw [if_pos (by rfl)]
            go_simp
            (with_reducible refine (sum1_at S1 _ _ _ (b.take k) (H1.out.symm) ?_).mono ?_)
            · focus ((repeat (first | (with_reducible apply RL.drew) | ((with_reducible refine RL.one _ ?_ HSV1.out ?_ HLK.out.symm); (focus ((repeat (first | exact Hb1W.out | (with_reducible apply RB.alloc))); done)); (focus (simp; done))) | (with_reducible apply RL.alloc))); done)
            rintro e w' ⟨rfl, rfl⟩
            refine hK.out _ _ ?_ (fun hS => ?_)
            · (repeat (first | assumption | (with_reducible apply bel_drew) | (with_reducible apply bel_alloc)))
            try simp only [Act.put, G5o4, List.setIfInBounds_toArray, List.set_cons_zero, List.set_cons_succ]
            refine wpAnyH_ready (rs := [8]) (by kernel_rfl) (by simp) ?_
            refine AllReadyH.cons (o := G5o8) rfl ?_ (AllReadyH.nil)
            · intro K' hK
              rw [if_pos (by rfl)]
              go_simp
              (with_reducible refine (more_len S0 S1 HS1.out _ _ _ (b.drop k) HLD.out _ ?_ HM10.out).mono ?_)
              · focus ((repeat (first | exact Hb2W.out | (with_reducible apply RB.drew) | (with_reducible apply RB.alloc))); done)
              rintro e w' ⟨rfl, rfl⟩
              refine hK.out _ _ ?_ (fun hS => ?_)
              · (repeat (first | assumption | (with_reducible apply bel_drew) | (with_reducible apply bel_alloc)))
              try simp only [Act.put, G5o8, List.setIfInBounds_toArray, List.set_cons_zero, List.set_cons_succ]
              refine wpAnyH_ready (rs := [11]) (by kernel_rfl) (by simp) ?_
              refine AllReadyH.cons (o := G5o11) rfl ?_ (AllReadyH.nil)
              · intro K' hK
                rw [if_pos (by rfl)]
                go_simp
                (with_reducible refine (sum1_at S0 _ _ _ b (H0.out.symm) ?_).mono ?_)
                · focus ((repeat (first | (with_reducible apply RL.drew) | ((with_reducible refine RL.one _ ?_ HC.out ?_ rfl); (focus ((repeat (first | exact HbW.out | (with_reducible apply RB.alloc))); done)); (focus (simp; done))) | (with_reducible apply RL.alloc))); done)
                rintro e w' ⟨rfl, rfl⟩
                refine hK.out _ _ ?_ (fun hS => ?_)
                · (repeat (first | assumption | (with_reducible apply bel_drew) | (with_reducible apply bel_alloc)))
                try simp only [Act.put, G5o11, List.setIfInBounds_toArray, List.set_cons_zero, List.set_cons_succ]
                refine wpAnyH_take (i := 12) (oi := G5o12) (v := ?_) rfl G5ns (by kernel_rfl) (by kernel_rfl) (fun _ _ _ h => h) (Or.inl ⟨by rfl, ?_⟩) (by first | trivial | assumption) ?_
                rotate_left
                · (intro w hSw; (try dsimp only at hSw); go_simp; try with_reducible rfl)
                try simp only [Act.put, G5o12, List.setIfInBounds_toArray, List.set_cons_zero, List.set_cons_succ]
                refine wpAnyH_take (i := 13) (oi := G5o13) (v := ?_) rfl G5ns (by kernel_rfl) (by kernel_rfl) (fun _ _ _ h => h) (Or.inl ⟨by rfl, ?_⟩) (by first | trivial | assumption) ?_
                rotate_left
                · (intro w hSw; (try dsimp only at hSw); go_simp; try with_reducible rfl)
                try simp only [Act.put, G5o13, List.setIfInBounds_toArray, List.set_cons_zero, List.set_cons_succ]
                refine wpAnyH_take (i := 14) (oi := G5o14) (v := ?_) rfl G5ns (by kernel_rfl) (by kernel_rfl) (fun _ _ _ h => h) (Or.inl ⟨by rfl, ?_⟩) (by first | trivial | assumption) ?_
                rotate_left
                · (intro w hSw; (try dsimp only at hSw); go_simp; try with_reducible rfl)
                try simp only [Act.put, G5o14, List.setIfInBounds_toArray, List.set_cons_zero, List.set_cons_succ]
                refine wpAnyH_take (i := 15) (oi := G5o15) (v := ?_) rfl G5ns (by kernel_rfl) (by kernel_rfl) (fun _ _ _ h => h) (Or.inl ⟨by rfl, ?_⟩) (by first | trivial | assumption) ?_
                rotate_left
                · (intro w hSw; (try dsimp only at hSw); go_simp; try with_reducible rfl)
                try simp only [Act.put, G5o15, List.setIfInBounds_toArray, List.set_cons_zero, List.set_cons_succ]
                refine wpAnyH_take (i := 16) (oi := G5o16) (v := ?_) rfl G5ns (by kernel_rfl) (by kernel_rfl) (fun _ _ _ h => h) (Or.inl ⟨by rfl, ?_⟩) (by first | trivial | assumption) ?_
                rotate_left
                · (intro w hSw; (try dsimp only at hSw); go_simp; try with_reducible rfl)
                try simp only [Act.put, G5o16, List.setIfInBounds_toArray, List.set_cons_zero, List.set_cons_succ]
                refine wpAnyH_take (i := 19) (oi := G5o19) (v := ?_) rfl G5ns (by kernel_rfl) (by kernel_rfl) (fun _ _ _ h => h) (Or.inl ⟨by rfl, ?_⟩) (by first | trivial | assumption) ?_
                rotate_left
                · (intro w hSw; (try dsimp only at hSw); go_simp; try with_reducible rfl)
                try simp only [Act.put, G5o19, List.setIfInBounds_toArray, List.set_cons_zero, List.set_cons_succ]
                refine wpAnyH_take (i := 20) (oi := G5o20) (v := ?_) rfl G5ns (by kernel_rfl) (by kernel_rfl) (fun _ _ _ h => h) (Or.inl ⟨by rfl, ?_⟩) (by first | trivial | assumption) ?_
                rotate_left
                · (intro w hSw; (try dsimp only at hSw); go_simp; try with_reducible rfl)
                try simp only [Act.put, G5o20, List.setIfInBounds_toArray, List.set_cons_zero, List.set_cons_succ]
                refine wpAnyH_take (i := 21) (oi := G5o21) (v := ?_) rfl G5ns (by kernel_rfl) (by kernel_rfl) (fun _ _ _ h => h) (Or.inl ⟨by rfl, ?_⟩) (by first | trivial | assumption) ?_
                rotate_left
                · (intro w hSw; (try dsimp only at hSw); go_simp; try with_reducible rfl)
                try simp only [Act.put, G5o21, List.setIfInBounds_toArray, List.set_cons_zero, List.set_cons_succ]
                refine wpAnyH_take (i := 23) (oi := G5o23) (v := ?_) rfl G5ns (by kernel_rfl) (by kernel_rfl) (fun _ _ _ h => h) (Or.inl ⟨by rfl, ?_⟩) (by first | trivial | assumption) ?_
                rotate_left
                · (intro w hSw; (try dsimp only at hSw); go_simp; try with_reducible rfl)
                try simp only [Act.put, G5o23, List.setIfInBounds_toArray, List.set_cons_zero, List.set_cons_succ]
                refine wpAnyH_take (i := 25) (oi := G5o25) (v := ?_) rfl G5ns (by kernel_rfl) (by kernel_rfl) (fun _ _ _ h => h) (Or.inl ⟨by rfl, ?_⟩) (by first | trivial | assumption) ?_
                rotate_left
                · (intro w hSw; (try dsimp only at hSw); go_simp; try with_reducible rfl)
                try simp only [Act.put, G5o25, List.setIfInBounds_toArray, List.set_cons_zero, List.set_cons_succ]
                refine wpAnyH_ready (rs := [17]) (by kernel_rfl) (by simp) ?_
                refine AllReadyH.cons (o := G5o17) rfl ?_ (AllReadyH.nil)
                · intro K' hK
                  rw [if_pos (by rfl)]
                  go_simp
                  refine hK.out _ _ ?_ (fun hS => ?_)
                  · (repeat (first | assumption | (with_reducible apply bel_drew) | (with_reducible apply bel_alloc)))
                  try simp only [Act.put, G5o17, List.setIfInBounds_toArray, List.set_cons_zero, List.set_cons_succ]
                  refine wpAnyH_ready (rs := [18]) (by kernel_rfl) (by simp) ?_
                  refine AllReadyH.cons (o := G5o18) rfl ?_ (AllReadyH.nil)
                  · intro K' hK
                    rw [if_pos (by rfl)]
                    go_simp
                    (with_reducible refine (sum1_at S1 _ _ _ (b.take k) (H1.out.symm) ?_).mono ?_)
                    · focus ((repeat (first | (with_reducible apply RL.drew) | ((with_reducible refine RL.one _ ?_ HSV1.out ?_ HLK.out.symm); (focus ((repeat (first | exact Hb1W.out | (with_reducible apply RB.alloc))); done)); (focus (simp; done))) | (with_reducible apply RL.alloc))); done)
                    rintro e w' ⟨rfl, rfl⟩
                    refine hK.out _ _ ?_ (fun hS => ?_)
                    · (repeat (first | assumption | (with_reducible apply bel_drew) | (with_reducible apply bel_alloc)))
                    try simp only [Act.put, G5o18, List.setIfInBounds_toArray, List.set_cons_zero, List.set_cons_succ]
                    refine wpAnyH_ready (rs := [22]) (by kernel_rfl) (by simp) ?_
                    refine AllReadyH.cons (o := G5o22) rfl ?_ (AllReadyH.nil)
                    · intro K' hK
                      rw [if_pos (by rfl)]
                      go_simp
                      (with_reducible refine (more_len S0 S1 HS1.out _ _ _ (b.drop k) HLD.out _ ?_ HM10.out).mono ?_)
                      · focus ((repeat (first | exact Hb2W.out | (with_reducible apply RB.drew) | (with_reducible apply RB.alloc))); done)
                      rintro e w' ⟨rfl, rfl⟩
                      refine hK.out _ _ ?_ (fun hS => ?_)
                      · (repeat (first | assumption | (with_reducible apply bel_drew) | (with_reducible apply bel_alloc)))
                      try simp only [Act.put, G5o22, List.setIfInBounds_toArray, List.set_cons_zero, List.set_cons_succ]
                      refine wpAnyH_ready (rs := [24]) (by kernel_rfl) (by simp) ?_
                      refine AllReadyH.cons (o := G5o24) rfl ?_ (AllReadyH.nil)
                      · intro K' hK
                        rw [if_pos (by rfl)]
                        go_simp
                        (with_reducible refine (more_at S2 S0 HS0.out _ _ m _ ?_ HM02.out).mono ?_)
                        · focus ((repeat (first | exact HMW.out | (with_reducible apply RB.drew) | (with_reducible apply RB.alloc))); done)
                        rintro e w' ⟨rfl, rfl⟩
                        refine hK.out _ _ ?_ (fun hS => ?_)
                        · (repeat (first | assumption | (with_reducible apply bel_drew) | (with_reducible apply bel_alloc)))
                        try simp only [Act.put, G5o24, List.setIfInBounds_toArray, List.set_cons_zero, List.set_cons_succ]
                        refine wpAnyH_take (i := 26) (oi := G5o26) (v := ?_) rfl G5ns (by kernel_rfl) (by kernel_rfl) (fun _ _ _ h => h) (Or.inl ⟨by rfl, ?_⟩) (by first | trivial | assumption) ?_
                        rotate_left
                        · (intro w hSw; (try dsimp only at hSw); go_simp; try with_reducible rfl)
                        try simp only [Act.put, G5o26, List.setIfInBounds_toArray, List.set_cons_zero, List.set_cons_succ]
                        refine wpAnyH_take (i := 27) (oi := G5o27) (v := ?_) rfl G5ns (by kernel_rfl) (by kernel_rfl) (fun _ _ _ h => h) (Or.inl ⟨by rfl, ?_⟩) (by first | trivial | assumption) ?_
                        rotate_left
                        · (intro w hSw; (try dsimp only at hSw); go_simp; try with_reducible rfl)
                        try simp only [Act.put, G5o27, List.setIfInBounds_toArray, List.set_cons_zero, List.set_cons_succ]
                        refine wpAnyH_take (i := 28) (oi := G5o28) (v := ?_) rfl G5ns (by kernel_rfl) (by kernel_rfl) (fun _ _ _ h => h) (Or.inl ⟨by rfl, ?_⟩) (by first | trivial | assumption) ?_
                        rotate_left
                        · (intro w hSw; (try dsimp only at hSw); go_simp; try with_reducible rfl)
                        try simp only [Act.put, G5o28, List.setIfInBounds_toArray, List.set_cons_zero, List.set_cons_succ]
                        refine wpAnyH_take (i := 29) (oi := G5o29) (v := ?_) rfl G5ns (by kernel_rfl) (by kernel_rfl) (fun _ _ _ h => h) (Or.inl ⟨by rfl, ?_⟩) (by first | trivial | assumption) ?_
                        rotate_left
                        · (intro w hSw; (try dsimp only at hSw); go_simp; try with_reducible rfl)
                        try simp only [Act.put, G5o29, List.setIfInBounds_toArray, List.set_cons_zero, List.set_cons_succ]
                        refine wpAnyH_take (i := 31) (oi := G5o31) (v := ?_) rfl G5ns (by kernel_rfl) (by kernel_rfl) (fun _ _ _ h => h) (Or.inl ⟨by rfl, ?_⟩) (by first | trivial | assumption) ?_
                        rotate_left
                        · (intro w hSw; (try dsimp only at hSw); go_simp; try with_reducible rfl)
                        try simp only [Act.put, G5o31, List.setIfInBounds_toArray, List.set_cons_zero, List.set_cons_succ]
                        refine wpAnyH_ready (rs := [30]) (by kernel_rfl) (by simp) ?_
                        refine AllReadyH.cons (o := G5o30) rfl ?_ (AllReadyH.nil)
                        · intro K' hK
                          rw [if_pos (by rfl)]
                          go_simp
                          (with_reducible refine (more_len S2 S2 HS2.out none 0 0 [] rfl _ (RB.nil _ _) (Crc.more_nil _)).mono ?_)
                          rintro e w' ⟨rfl, rfl⟩
                          refine hK.out _ _ ?_ (fun hS => ?_)
                          · (repeat (first | assumption | (with_reducible apply bel_drew) | (with_reducible apply bel_alloc)))
                          try simp only [Act.put, G5o30, List.setIfInBounds_toArray, List.set_cons_zero, List.set_cons_succ]
                          refine wpAnyH_take (i := 32) (oi := G5o32) (v := ?_) rfl G5ns (by kernel_rfl) (by kernel_rfl) (fun _ _ _ h => h) (Or.inl ⟨by rfl, ?_⟩) (by first | trivial | assumption) ?_
                          rotate_left
                          · (intro w hSw; (try dsimp only at hSw); go_simp; try with_reducible rfl)
                          try simp only [Act.put, G5o32, List.setIfInBounds_toArray, List.set_cons_zero, List.set_cons_succ]
                          refine wpAnyH_take (i := 33) (oi := G5o33) (v := ?_) rfl G5ns (by kernel_rfl) (by kernel_rfl) (fun _ _ _ h => h) (Or.inl ⟨by rfl, ?_⟩) (by first | trivial | assumption) ?_
                          rotate_left
                          · (intro w hSw; (try dsimp only at hSw); go_simp; try with_reducible rfl)
                          try simp only [Act.put, G5o33, List.setIfInBounds_toArray, List.set_cons_zero, List.set_cons_succ]
                          refine wpAnyH_take (i := 34) (oi := G5o34) (v := ?_) rfl G5ns (by kernel_rfl) (by kernel_rfl) (fun _ _ _ h => h) (Or.inl ⟨by rfl, ?_⟩) (by first | trivial | assumption) ?_
                          rotate_left
                          · (intro w hSw; (try dsimp only at hSw); go_simp; try with_reducible rfl)
                          try simp only [Act.put, G5o34, List.setIfInBounds_toArray, List.set_cons_zero, List.set_cons_succ]
                          refine wpAnyH_take (i := 35) (oi := G5o35) (v := ?_) rfl G5ns (by kernel_rfl) (by kernel_rfl) (fun _ _ _ h => h) (Or.inl ⟨by rfl, ?_⟩) (by first | trivial | assumption) ?_
                          rotate_left
                          · (intro w hSw; (try dsimp only at hSw); go_simp; try with_reducible rfl)
                          try simp only [Act.put, G5o35, List.setIfInBounds_toArray, List.set_cons_zero, List.set_cons_succ]
                          refine wpAnyH_take (i := 37) (oi := G5o37) (v := ?_) rfl G5ns (by kernel_rfl) (by kernel_rfl) (fun _ _ _ h => h) (Or.inl ⟨by rfl, ?_⟩) (by first | trivial | assumption) ?_
                          rotate_left
                          · (intro w hSw; (try dsimp only at hSw); go_simp; try with_reducible rfl)
                          try simp only [Act.put, G5o37, List.setIfInBounds_toArray, List.set_cons_zero, List.set_cons_succ]
                          refine wpAnyH_take (i := 39) (oi := G5o39) (v := ?_) rfl G5ns (by kernel_rfl) (by kernel_rfl) (fun _ _ _ h => h) (Or.inl ⟨by rfl, ?_⟩) (by first | trivial | assumption) ?_
                          rotate_left
                          · (intro w hSw; (try dsimp only at hSw); go_simp; try with_reducible rfl)
                          try simp only [Act.put, G5o39, List.setIfInBounds_toArray, List.set_cons_zero, List.set_cons_succ]
                          refine wpAnyH_ready (rs := [36]) (by kernel_rfl) (by simp) ?_
                          refine AllReadyH.cons (o := G5o36) rfl ?_ (AllReadyH.nil)
                          · intro K' hK
                            rw [if_pos (by rfl)]
                            go_simp
                            refine hK.out _ _ ?_ (fun hS => ?_)
                            · (repeat (first | assumption | (with_reducible apply bel_drew) | (with_reducible apply bel_alloc)))
                            try simp only [Act.put, G5o36, List.setIfInBounds_toArray, List.set_cons_zero, List.set_cons_succ]
                            refine wpAnyH_ready (rs := [38]) (by kernel_rfl) (by simp) ?_
                            refine AllReadyH.cons (o := G5o38) rfl ?_ (AllReadyH.nil)
                            · intro K' hK
                              refine step_app_bytes rfl _ _ 24 rfl w.heap.size 5 Try.underlying24 info5 _ [] rfl ?_ _ _ b rfl HC.out.2 ?_ (by simp; omega) ?_ ?_
                              · refine (OB.empty _ _ 5 ?_ _ ?_).drew
                                · have := HB.out.size; simp; omega
                                · simp
                              · focus ((repeat (first | exact HbW.out | (with_reducible apply RB.drew) | (with_reducible apply RB.alloc))); done)
                              · exact hS.size
                              intro v1 w1 ho1 hg1 _
                              rw [List.nil_append] at ho1
                              have HO1 := Lib.hid ho1
                              have hB1 := bel_grown hS hg1 (fun k e => by have := HB.out.size; simp [Value.ownBlock, Act.eval] at e; omega)
                              have HM1 : Hid (RB w1 B m) := HM.out.below hB1
                              clear ho1 hg1
                              refine hK.out _ _ ?_ (fun hS => ?_)
                              · exact hB1
                              try simp only [Act.put, G5o38, List.setIfInBounds_toArray, List.set_cons_zero, List.set_cons_succ]
                              refine wpAnyH_ready (rs := [40]) (by kernel_rfl) (by simp) ?_
                              refine AllReadyH.cons (o := G5o40) rfl ?_ (AllReadyH.nil)
                              · intro K' hK
                                refine step_app_bytes rfl _ _ 24 rfl w.heap.size 5 Try.underlying24 info5 _ b rfl HO1.out _ _ m rfl HCM.out.2 HM1.out (by omega) hS.size ?_
                                intro v2 w2 ho2 hg2 _
                                rw [← HBM.out] at ho2
                                have hB2 := bel_grown hS hg2 (fun k e => HO1.out.base_ k e)
                                obtain ⟨A2, c2, hv2, hsv2, hrb2⟩ := ho2.reads
                                subst hv2
                                have HSV2 := Lib.hid hsv2
                                have HRB2 := Lib.hid hrb2
                                clear ho2 hg2 hsv2 hrb2
                                refine hK.out _ _ ?_ (fun hS => ?_)
                                · exact hB2
                                try simp only [Act.put, G5o40, List.setIfInBounds_toArray, List.set_cons_zero, List.set_cons_succ]
                                refine wpAnyH_ready (rs := [41]) (by kernel_rfl) (by simp) ?_
                                refine AllReadyH.cons (o := G5o41) rfl ?_ (AllReadyH.nil)
                                · intro K' hK
                                  rw [if_pos (by rfl)]
                                  go_simp
                                  (with_reducible refine (same_len true S2 _ _ _ bm ?_ _ HRB2.out HSV2.out HSB.out).mono ?_)
                                  · first | rfl | exact HBMl.out.symm
                                  rintro e w3 ⟨rfl, hw3⟩
                                  have hB3 := bel_then hS hw3
                                  clear hw3
                                  refine hK.out _ _ ?_ (fun hS => ?_)
                                  · exact hB3
                                  try simp only [Act.put, G5o41, List.setIfInBounds_toArray, List.set_cons_zero, List.set_cons_succ]
                                  refine wpAnyH_take (i := 42) (oi := G5o42) (v := ?_) rfl G5ns (by kernel_rfl) (by kernel_rfl) (fun _ _ _ h => h) (Or.inl ⟨by rfl, ?_⟩) (by first | trivial | assumption) ?_
                                  rotate_left
                                  · (intro w hSw; (try dsimp only at hSw); go_simp; try with_reducible rfl)
                                  try simp only [Act.put, G5o42, List.setIfInBounds_toArray, List.set_cons_zero, List.set_cons_succ]
                                  refine wpAnyH_take (i := 43) (oi := G5o43) (v := ?_) rfl G5ns (by kernel_rfl) (by kernel_rfl) (fun _ _ _ h => h) (Or.inl ⟨by rfl, ?_⟩) (by first | trivial | assumption) ?_
                                  rotate_left
                                  · (intro w hSw; (try dsimp only at hSw); go_simp; try with_reducible rfl)
                                  try simp only [Act.put, G5o43, List.setIfInBounds_toArray, List.set_cons_zero, List.set_cons_succ]
                                  refine wpAnyH_ready (rs := [44]) (by kernel_rfl) (by simp) ?_
                                  refine AllReadyH.cons (o := G5o44) rfl ?_ (AllReadyH.nil)
                                  · intro K' hK
                                    rw [if_pos (by rfl)]
                                    go_simp
                                    (with_reducible refine (awake_any _).mono ?_)
                                    rintro e w4 ⟨rfl, hw4⟩
                                    have hB4 := bel_then hS hw4
                                    clear hw4
                                    refine hK.out _ _ ?_ (fun hS => ?_)
                                    · exact hB4
                                    try simp only [Act.put, G5o44, List.setIfInBounds_toArray, List.set_cons_zero, List.set_cons_succ]
                                    refine wpAnyH_take (i := 45) (oi := G5o45) (v := ?_) rfl G5ns (by kernel_rfl) (by kernel_rfl) (fun _ _ _ h => h) (Or.inl ⟨by rfl, ?_⟩) (by first | trivial | assumption) ?_
                                    rotate_left
                                    · (intro w hSw; (try dsimp only at hSw); go_simp; try with_reducible rfl)
                                    try simp only [Act.put, G5o45, List.setIfInBounds_toArray, List.set_cons_zero, List.set_cons_succ]
                                    refine wpAnyH_take (i := 46) (oi := G5o46) (v := ?_) rfl G5ns (by kernel_rfl) (by kernel_rfl) (fun _ _ _ h => h) (Or.inl ⟨by rfl, ?_⟩) (by first | trivial | assumption) ?_
                                    rotate_left
                                    · (intro w hSw; (try dsimp only at hSw); go_simp; try with_reducible rfl)
                                    try simp only [Act.put, G5o46, List.setIfInBounds_toArray, List.set_cons_zero, List.set_cons_succ]
                                    refine wpAnyH_done (by kernel_rfl) ?_ _
                                    go_wp2
                                    go_ret
                                    exact ⟨rfl, hS⟩
end Go.Proofs.Ytigpeghfhfknjaa
