/- The walk of CrcGoes. Conditions: none. -/
import Derived.Test.YtigpeghfhfknjaaSums
import Derived.Deep.RegionHeld3
import Derived.Deep.QuietTactic
import Derived.BigQuiet
import Derived.Deep.RegionLaw
namespace Go.Proofs.Ytigpeghfhfknjaa
set_option linter.unusedVariables false
set_option linter.unusedSimpArgs false
open Go.RowKit

theorem sum1_at (n : Nat) (A : Option Addr) (c : Nat) (w : World) (bs : List UInt8) (h : Crc.sum bs = n) (hr : RL w A [bs]) :
    Calls Try.prog 8 #[.slice A 1 c] w fun e w' => e = .returned (.int .u32 (n : Nat)) ∧ w = w' := sum_at n A c [bs] w hr (by simpa using h)
theorem more_len (n : Nat) (s : Nat) (hs : s < 2 ^ 32) (A : Option Addr) (l c : Nat) (bs : List UInt8) (hl : bs.length = l) (w : World) (hr : RB w A bs) (h : Crc.more s bs = n) :
    Calls Try.prog 9 #[.int .u32 (s : Int), .slice A l c] w fun e w' => e = .returned (.int .u32 (n : Nat)) ∧ w = w' := by subst hl; exact more_at n s hs A c bs w hr h
theorem same_len (q : Bool) (s : Nat) (A : Option Addr) (l c : Nat) (bs : List UInt8) (hl : bs.length = l) (w : World) (hr : RB w A bs) (hc : SV A bs.length c) (h : (s == Crc.sum bs) = q) :
    Calls Try.prog 12 #[.int .u32 (s : Int), .slice A l c] w fun e w' => e = .returned (.bool q) ∧ Below w.heap.size w w' := by subst hl; exact same_at q s A c bs w hr hc h
noncomputable def G5 : Array Oper := regionOf Try.f5 5
theorem Gns : Region.noSelect G5 = true := by kernel_rfl
theorem round_at (r k n : Int) (w : World) (h1 : -9223372036854775808 ≤ k) (h2 : k ≤ 9223372036854775807) (hn : 0 < n) (hn2 : n ≤ 4611686018427387904) (h : k % n = r) :
    Calls Try.prog 13 #[.int .i64 k, .int .i64 n] w fun e w' => e = .returned (.int .i64 r) ∧ w = w' := by subst h; exact round_any k n w h1 h2 hn hn2

set_option maxHeartbeats 4000000 in
theorem goes_main (A : Option Addr) (c : Nat) (b : List UInt8) (at_ : Int) (hat1 : -9223372036854775808 ≤ at_) (hat2 : at_ ≤ 9223372036854775807) (B : Option Addr) (cb : Nat) (m : List UInt8) (w : World) (hr : RB w A b) (hc : SV A b.length c) (hm : RB w B m) (hcm : SV B m.length cb) :
    Calls Try.prog 5 #[.slice A b.length c, .int .i64 at_, .slice B m.length cb] w fun e w' => e = .returned (.bool true) ∧ Below w.heap.size w w' := by
  have HR := Lib.hid hr
  have HM := Lib.hid hm
  have HC := Lib.hid hc
  have HCM := Lib.hid hcm
  have hl := hr.len
  have hml := hm.len
  clear hr hm hc hcm
  by_cases h1 : 500 < b.length
  · go_enter Try.func5, Try.ntmps5
    go_wp2_with fail
    refine (awake_any _).mono ?_
    rintro e w2 ⟨rfl, hB2⟩
    have HB2 := Lib.hid hB2
    clear hB2
    go_wp2
    go_ret
    exact ⟨rfl, HB2.out⟩
  · by_cases h2 : 500 < m.length
    · go_enter Try.func5, Try.ntmps5
      go_wp2_with fail
      refine (awake_any _).mono ?_
      rintro e w2 ⟨rfl, hB2⟩
      have HB2 := Lib.hid hB2
      clear hB2
      go_wp2
      go_ret
      exact ⟨rfl, HB2.out⟩
    · go_enter Try.func5, Try.ntmps5
      go_wp2_with fail
      have hk0 := Int.emod_nonneg at_ (show ((b.length : Int) + 1) ≠ 0 by omega)
      have hk1 := Int.emod_lt_of_pos at_ (show 0 < ((b.length : Int) + 1) by omega)
      obtain ⟨k, hk⟩ := Int.eq_ofNat_of_zero_le hk0
      rw [hk] at hk1
      have hkb : k ≤ b.length := by omega
      have hkc : k ≤ c := by have := HC.out.1; omega
      clear hk0
      refine (round_at k at_ (b.length + 1) w hat1 hat2 (by omega) (by omega) hk).mono ?_
      rintro e w' ⟨rfl, rfl⟩
      clear hk hat1 hat2
      go_wp2_with fail
      obtain ⟨S2, hS2⟩ : ∃ n, n = Crc.sum (b ++ m) := ⟨_, rfl⟩
      refine (sum_at S2 _ _ [b, m] _ (RL.two _ HR.out HC.out HM.out HCM.out rfl) (by simp [hS2])).mono ?_
      rintro e W ⟨rfl, hW⟩
      have HB : Hid (Below w.heap.size w W) := by rw [← hW]; exact ((Below.refl _ _).alloc (Nat.le_refl _) _)
      have H2 := Lib.hid hS2
      clear hW hS2
      go_wp2_with fail
      have hbW : RB W A b := HR.out.below HB.out
      have hb1W : RB W A (b.take k) := by have := hbW.cut (A' := A) 0 k (by omega) (fun _ ad e => by rw [e]; unfold Addr.add; rfl); simpa using this
      have HbW := Lib.hid hbW
      have Hb1W := Lib.hid hb1W
      have hlk : (b.take k).length = k := by rw [List.length_take]; omega
      have HLK := Lib.hid hlk
      clear hbW hb1W hlk
      obtain ⟨S1, hS1⟩ : ∃ n, n = Crc.sum (b.take k) := ⟨_, rfl⟩
      obtain ⟨S0, hS0⟩ : ∃ n, n = Crc.sum b := ⟨_, rfl⟩
      have H1 := Lib.hid hS1
      have H0 := Lib.hid hS0
      clear hS1 hS0
      obtain ⟨bm, hbm⟩ : ∃ bm, bm = b ++ m := ⟨_, rfl⟩
      have HBM := Lib.hid hbm
      have HBMl : Hid (b.length + m.length = bm.length) := by rw [hbm, List.length_append]; exact rfl
      have HSB : Hid ((S2 == Crc.sum bm) = true) := Lib.hid (by rw [hbm, ← H2.out]; exact beq_self_eq_true S2)
      clear hbm
      obtain ⟨A', hA'⟩ : ∃ A', (if c = k then A else Option.map (fun x => x.add k) A) = A' := ⟨_, rfl⟩
      have hb2W : RB W A' (b.drop k) := by
        have := HbW.out.cut (A' := A') k (b.length - k) (by omega) (fun hp ad e => by
          have := HC.out.1
          rw [← hA', if_neg (by omega), e]; rfl)
        rwa [List.take_of_length_le (by rw [List.length_drop]; omega)] at this
      have Hb2W := Lib.hid hb2W
      have hld : (b.drop k).length = b.length - k := List.length_drop
      have HLD := Lib.hid hld
      clear hb2W hld
      have HM10 : Hid (Crc.more S1 (b.drop k) = S0) := by rw [H1.out, H0.out]; show _ = _; rw [Crc.sum, ← Crc.more_append, List.take_append_drop]; rfl
      have HM02 : Hid (Crc.more S0 m = S2) := by rw [H2.out, H0.out, Crc.sum, ← Crc.more_append]; rfl
      have HMW : Hid (RB W B m) := HM.out.below HB.out
      have HS1 : Hid (S1 < 2 ^ 32) := by rw [H1.out]; exact Crc.sum_lt _
      have HS0 : Hid (S0 < 2 ^ 32) := by rw [H0.out]; exact Crc.sum_lt _
      have HS2 : Hid (S2 < 2 ^ 32) := by rw [H2.out]; exact Crc.sum_lt _
      have HSV1 : Hid (SV A (b.take k).length c) := by rw [HLK.out]; exact ⟨hkc, HC.out.2⟩
      refine region_const (G := G5) (S := fun W' => Below w.heap.size w W') (n := 47) (by kernel_rfl) (by kernel_rfl) rfl (bel_drew HB.out) (fun HG hS => ?_)
      simp only [Array.replicate_succ, Array.replicate_zero, List.push_toArray, List.nil_append, List.cons_append]
      refine wpAnyH_take (i := 0) (v := ?_) (o_at HG 0 rfl) Gns (by kernel_rfl) (by kernel_rfl) (fun _ _ _ h => h) (Or.inl ⟨(by kernel_rfl), ?_⟩) (by first | trivial | assumption) ?_
      rotate_left
      · (intro w hSw; (try dsimp only at hSw); go_simp; try with_reducible rfl)
      try simp only [Act.put, List.getElem_toArray, List.getElem_cons_zero, List.getElem_cons_succ, List.setIfInBounds_toArray, List.set_cons_zero, List.set_cons_succ]
      refine wpAnyH_take (i := 1) (v := ?_) (o_at HG 1 rfl) Gns (by kernel_rfl) (by kernel_rfl) (fun _ _ _ h => h) (Or.inl ⟨(by kernel_rfl), ?_⟩) (by first | trivial | assumption) ?_
      rotate_left
      · (intro w hSw; (try dsimp only at hSw); go_simp; try with_reducible rfl)
      try simp only [Act.put, List.getElem_toArray, List.getElem_cons_zero, List.getElem_cons_succ, List.setIfInBounds_toArray, List.set_cons_zero, List.set_cons_succ]
      refine wpAnyH_take (i := 2) (v := ?_) (o_at HG 2 rfl) Gns (by kernel_rfl) (by kernel_rfl) (fun _ _ _ h => h) (Or.inl ⟨(by kernel_rfl), ?_⟩) (by first | trivial | assumption) ?_
      rotate_left
      · (intro w hSw; (try dsimp only at hSw); go_simp; try with_reducible rfl)
      try simp only [Act.put, List.getElem_toArray, List.getElem_cons_zero, List.getElem_cons_succ, List.setIfInBounds_toArray, List.set_cons_zero, List.set_cons_succ]
      refine wpAnyH_take (i := 5) (v := ?_) (o_at HG 5 rfl) Gns (by kernel_rfl) (by kernel_rfl) (fun _ _ _ h => h) (Or.inl ⟨(by kernel_rfl), ?_⟩) (by first | trivial | assumption) ?_
      rotate_left
      · (intro w hSw; (try dsimp only at hSw); go_simp; try with_reducible rfl)
      try simp only [Act.put, List.getElem_toArray, List.getElem_cons_zero, List.getElem_cons_succ, List.setIfInBounds_toArray, List.set_cons_zero, List.set_cons_succ]
      refine wpAnyH_take (i := 6) (v := ?_) (o_at HG 6 rfl) Gns (by kernel_rfl) (by kernel_rfl) (fun _ _ _ h => h) (Or.inl ⟨(by kernel_rfl), ?_⟩) (by first | trivial | assumption) ?_
      rotate_left
      · (intro w hSw; (try dsimp only at hSw); go_simp; try with_reducible rfl)
      try simp only [Act.put, List.getElem_toArray, List.getElem_cons_zero, List.getElem_cons_succ, List.setIfInBounds_toArray, List.set_cons_zero, List.set_cons_succ]
      refine wpAnyH_take (i := 7) (v := ?_) (o_at HG 7 rfl) Gns (by kernel_rfl) (by kernel_rfl) (fun _ _ _ h => h) (Or.inl ⟨(by kernel_rfl), ?_⟩) (by first | trivial | assumption) ?_
      rotate_left
      · (intro w hSw; (try dsimp only at hSw); go_simp; try with_reducible rfl)
      try simp only [Act.put, List.getElem_toArray, List.getElem_cons_zero, List.getElem_cons_succ, List.setIfInBounds_toArray, List.set_cons_zero, List.set_cons_succ]
      refine wpAnyH_take (i := 9) (v := ?_) (o_at HG 9 rfl) Gns (by kernel_rfl) (by kernel_rfl) (fun _ _ _ h => h) (Or.inl ⟨(by kernel_rfl), ?_⟩) (by first | trivial | assumption) ?_
      rotate_left
      · (intro w hSw; (try dsimp only at hSw); go_simp; try with_reducible rfl)
      try simp only [Act.put, List.getElem_toArray, List.getElem_cons_zero, List.getElem_cons_succ, List.setIfInBounds_toArray, List.set_cons_zero, List.set_cons_succ]
      refine wpAnyH_ready (rs := [3, 10]) (by kernel_rfl) (by simp) ?_
      refine AllReadyH.cons (o_at HG 3 rfl) ?_ (AllReadyH.cons (o_at HG 10 rfl) ?_ (AllReadyH.nil))
      · intro K' hK
        rw [if_pos (by kernel_rfl)]
        go_simp
        refine hK.out _ _ ?_ (fun hS => ?_)
        · (repeat (first | assumption | (with_reducible apply bel_drew) | (with_reducible apply bel_alloc)))
        try simp only [Act.put, List.getElem_toArray, List.getElem_cons_zero, List.getElem_cons_succ, List.setIfInBounds_toArray, List.set_cons_zero, List.set_cons_succ]
        refine wpAnyH_ready (rs := [4, 10]) (by kernel_rfl) (by simp) ?_
        refine AllReadyH.cons (o_at HG 4 rfl) ?_ (AllReadyH.cons (o_at HG 10 rfl) ?_ (AllReadyH.nil))
        · intro K' hK
          rw [if_pos (by kernel_rfl)]
          go_simp
          (with_reducible refine (sum1_at S1 _ _ _ (b.take k) (H1.out.symm) ?_).mono ?_)
          · focus ((repeat (first | (with_reducible apply RL.drew) | ((with_reducible refine RL.one _ ?_ HSV1.out ?_ HLK.out.symm); (focus ((repeat (first | exact Hb1W.out | (with_reducible apply RB.alloc))); done)); (focus (simp; done))) | (with_reducible apply RL.alloc))); done)
          rintro e w' ⟨rfl, rfl⟩
          refine hK.out _ _ ?_ (fun hS => ?_)
          · (repeat (first | assumption | (with_reducible apply bel_drew) | (with_reducible apply bel_alloc)))
          try simp only [Act.put, List.getElem_toArray, List.getElem_cons_zero, List.getElem_cons_succ, List.setIfInBounds_toArray, List.set_cons_zero, List.set_cons_succ]
          refine wpAnyH_ready (rs := [8, 10]) (by kernel_rfl) (by simp) ?_
          refine AllReadyH.cons (o_at HG 8 rfl) ?_ (AllReadyH.cons (o_at HG 10 rfl) ?_ (AllReadyH.nil))
          · intro K' hK
            rw [if_pos (by kernel_rfl)]
            go_simp
            (with_reducible refine (more_len S0 S1 HS1.out _ _ _ (b.drop k) HLD.out _ ?_ HM10.out).mono ?_)
            · focus ((repeat (first | exact Hb2W.out | (with_reducible apply RB.drew) | (with_reducible apply RB.alloc))); done)
            rintro e w' ⟨rfl, rfl⟩
            refine hK.out _ _ ?_ (fun hS => ?_)
            · (repeat (first | assumption | (with_reducible apply bel_drew) | (with_reducible apply bel_alloc)))
            try simp only [Act.put, List.getElem_toArray, List.getElem_cons_zero, List.getElem_cons_succ, List.setIfInBounds_toArray, List.set_cons_zero, List.set_cons_succ]
            refine wpAnyH_ready (rs := [10]) (by kernel_rfl) (by simp) ?_
            refine AllReadyH.cons (o_at HG 10 rfl) ?_ (AllReadyH.nil)
            · intro K' hK
              rw [if_pos (by kernel_rfl)]
              go_simp
              refine hK.out _ _ ?_ (fun hS => ?_)
              · (repeat (first | assumption | (with_reducible apply bel_drew) | (with_reducible apply bel_alloc)))
              try simp only [Act.put, List.getElem_toArray, List.getElem_cons_zero, List.getElem_cons_succ, List.setIfInBounds_toArray, List.set_cons_zero, List.set_cons_succ]
              refine wpAnyH_ready (rs := [11]) (by kernel_rfl) (by simp) ?_
              refine AllReadyH.cons (o_at HG 11 rfl) ?_ (AllReadyH.nil)
              · intro K' hK
                rw [if_pos (by kernel_rfl)]
                go_simp
                (with_reducible refine (sum1_at S0 _ _ _ b (H0.out.symm) ?_).mono ?_)
                · focus ((repeat (first | (with_reducible apply RL.drew) | ((with_reducible refine RL.one _ ?_ HC.out ?_ rfl); (focus ((repeat (first | exact HbW.out | (with_reducible apply RB.alloc))); done)); (focus (simp; done))) | (with_reducible apply RL.alloc))); done)
                rintro e w' ⟨rfl, rfl⟩
                refine hK.out _ _ ?_ (fun hS => ?_)
                · (repeat (first | assumption | (with_reducible apply bel_drew) | (with_reducible apply bel_alloc)))
                try simp only [Act.put, List.getElem_toArray, List.getElem_cons_zero, List.getElem_cons_succ, List.setIfInBounds_toArray, List.set_cons_zero, List.set_cons_succ]
                refine wpAnyH_take (i := 12) (v := ?_) (o_at HG 12 rfl) Gns (by kernel_rfl) (by kernel_rfl) (fun _ _ _ h => h) (Or.inl ⟨(by kernel_rfl), ?_⟩) (by first | trivial | assumption) ?_
                rotate_left
                · (intro w hSw; (try dsimp only at hSw); go_simp; try with_reducible rfl)
                try simp only [Act.put, List.getElem_toArray, List.getElem_cons_zero, List.getElem_cons_succ, List.setIfInBounds_toArray, List.set_cons_zero, List.set_cons_succ]
                refine wpAnyH_take (i := 13) (v := ?_) (o_at HG 13 rfl) Gns (by kernel_rfl) (by kernel_rfl) (fun _ _ _ h => h) (Or.inl ⟨(by kernel_rfl), ?_⟩) (by first | trivial | assumption) ?_
                rotate_left
                · (intro w hSw; (try dsimp only at hSw); go_simp; try with_reducible rfl)
                try simp only [Act.put, List.getElem_toArray, List.getElem_cons_zero, List.getElem_cons_succ, List.setIfInBounds_toArray, List.set_cons_zero, List.set_cons_succ]
                refine wpAnyH_take (i := 14) (v := ?_) (o_at HG 14 rfl) Gns (by kernel_rfl) (by kernel_rfl) (fun _ _ _ h => h) (Or.inl ⟨(by kernel_rfl), ?_⟩) (by first | trivial | assumption) ?_
                rotate_left
                · (intro w hSw; (try dsimp only at hSw); go_simp; try with_reducible rfl)
                try simp only [Act.put, List.getElem_toArray, List.getElem_cons_zero, List.getElem_cons_succ, List.setIfInBounds_toArray, List.set_cons_zero, List.set_cons_succ]
                refine wpAnyH_take (i := 15) (v := ?_) (o_at HG 15 rfl) Gns (by kernel_rfl) (by kernel_rfl) (fun _ _ _ h => h) (Or.inl ⟨(by kernel_rfl), ?_⟩) (by first | trivial | assumption) ?_
                rotate_left
                · (intro w hSw; (try dsimp only at hSw); go_simp; try with_reducible rfl)
                try simp only [Act.put, List.getElem_toArray, List.getElem_cons_zero, List.getElem_cons_succ, List.setIfInBounds_toArray, List.set_cons_zero, List.set_cons_succ]
                refine wpAnyH_take (i := 16) (v := ?_) (o_at HG 16 rfl) Gns (by kernel_rfl) (by kernel_rfl) (fun _ _ _ h => h) (Or.inl ⟨(by kernel_rfl), ?_⟩) (by first | trivial | assumption) ?_
                rotate_left
                · (intro w hSw; (try dsimp only at hSw); go_simp; try with_reducible rfl)
                try simp only [Act.put, List.getElem_toArray, List.getElem_cons_zero, List.getElem_cons_succ, List.setIfInBounds_toArray, List.set_cons_zero, List.set_cons_succ]
                refine wpAnyH_take (i := 19) (v := ?_) (o_at HG 19 rfl) Gns (by kernel_rfl) (by kernel_rfl) (fun _ _ _ h => h) (Or.inl ⟨(by kernel_rfl), ?_⟩) (by first | trivial | assumption) ?_
                rotate_left
                · (intro w hSw; (try dsimp only at hSw); go_simp; try with_reducible rfl)
                try simp only [Act.put, List.getElem_toArray, List.getElem_cons_zero, List.getElem_cons_succ, List.setIfInBounds_toArray, List.set_cons_zero, List.set_cons_succ]
                refine wpAnyH_take (i := 20) (v := ?_) (o_at HG 20 rfl) Gns (by kernel_rfl) (by kernel_rfl) (fun _ _ _ h => h) (Or.inl ⟨(by kernel_rfl), ?_⟩) (by first | trivial | assumption) ?_
                rotate_left
                · (intro w hSw; (try dsimp only at hSw); go_simp; try with_reducible rfl)
                try simp only [Act.put, List.getElem_toArray, List.getElem_cons_zero, List.getElem_cons_succ, List.setIfInBounds_toArray, List.set_cons_zero, List.set_cons_succ]
                refine wpAnyH_take (i := 21) (v := ?_) (o_at HG 21 rfl) Gns (by kernel_rfl) (by kernel_rfl) (fun _ _ _ h => h) (Or.inl ⟨(by kernel_rfl), ?_⟩) (by first | trivial | assumption) ?_
                rotate_left
                · (intro w hSw; (try dsimp only at hSw); go_simp; try with_reducible rfl)
                try simp only [Act.put, List.getElem_toArray, List.getElem_cons_zero, List.getElem_cons_succ, List.setIfInBounds_toArray, List.set_cons_zero, List.set_cons_succ]
                refine wpAnyH_take (i := 23) (v := ?_) (o_at HG 23 rfl) Gns (by kernel_rfl) (by kernel_rfl) (fun _ _ _ h => h) (Or.inl ⟨(by kernel_rfl), ?_⟩) (by first | trivial | assumption) ?_
                rotate_left
                · (intro w hSw; (try dsimp only at hSw); go_simp; try with_reducible rfl)
                try simp only [Act.put, List.getElem_toArray, List.getElem_cons_zero, List.getElem_cons_succ, List.setIfInBounds_toArray, List.set_cons_zero, List.set_cons_succ]
                refine wpAnyH_take (i := 25) (v := ?_) (o_at HG 25 rfl) Gns (by kernel_rfl) (by kernel_rfl) (fun _ _ _ h => h) (Or.inl ⟨(by kernel_rfl), ?_⟩) (by first | trivial | assumption) ?_
                rotate_left
                · (intro w hSw; (try dsimp only at hSw); go_simp; try with_reducible rfl)
                try simp only [Act.put, List.getElem_toArray, List.getElem_cons_zero, List.getElem_cons_succ, List.setIfInBounds_toArray, List.set_cons_zero, List.set_cons_succ]
                refine wpAnyH_ready (rs := [17]) (by kernel_rfl) (by simp) ?_
                refine AllReadyH.cons (o_at HG 17 rfl) ?_ (AllReadyH.nil)
                · intro K' hK
                  rw [if_pos (by kernel_rfl)]
                  go_simp
                  refine hK.out _ _ ?_ (fun hS => ?_)
                  · (repeat (first | assumption | (with_reducible apply bel_drew) | (with_reducible apply bel_alloc)))
                  try simp only [Act.put, List.getElem_toArray, List.getElem_cons_zero, List.getElem_cons_succ, List.setIfInBounds_toArray, List.set_cons_zero, List.set_cons_succ]
                  refine wpAnyH_ready (rs := [18]) (by kernel_rfl) (by simp) ?_
                  refine AllReadyH.cons (o_at HG 18 rfl) ?_ (AllReadyH.nil)
                  · intro K' hK
                    rw [if_pos (by kernel_rfl)]
                    go_simp
                    (with_reducible refine (sum1_at S1 _ _ _ (b.take k) (H1.out.symm) ?_).mono ?_)
                    · focus ((repeat (first | (with_reducible apply RL.drew) | ((with_reducible refine RL.one _ ?_ HSV1.out ?_ HLK.out.symm); (focus ((repeat (first | exact Hb1W.out | (with_reducible apply RB.alloc))); done)); (focus (simp; done))) | (with_reducible apply RL.alloc))); done)
                    rintro e w' ⟨rfl, rfl⟩
                    refine hK.out _ _ ?_ (fun hS => ?_)
                    · (repeat (first | assumption | (with_reducible apply bel_drew) | (with_reducible apply bel_alloc)))
                    try simp only [Act.put, List.getElem_toArray, List.getElem_cons_zero, List.getElem_cons_succ, List.setIfInBounds_toArray, List.set_cons_zero, List.set_cons_succ]
                    refine wpAnyH_ready (rs := [22]) (by kernel_rfl) (by simp) ?_
                    refine AllReadyH.cons (o_at HG 22 rfl) ?_ (AllReadyH.nil)
                    · intro K' hK
                      rw [if_pos (by kernel_rfl)]
                      go_simp
                      (with_reducible refine (more_len S0 S1 HS1.out _ _ _ (b.drop k) HLD.out _ ?_ HM10.out).mono ?_)
                      · focus ((repeat (first | exact Hb2W.out | (with_reducible apply RB.drew) | (with_reducible apply RB.alloc))); done)
                      rintro e w' ⟨rfl, rfl⟩
                      refine hK.out _ _ ?_ (fun hS => ?_)
                      · (repeat (first | assumption | (with_reducible apply bel_drew) | (with_reducible apply bel_alloc)))
                      try simp only [Act.put, List.getElem_toArray, List.getElem_cons_zero, List.getElem_cons_succ, List.setIfInBounds_toArray, List.set_cons_zero, List.set_cons_succ]
                      refine wpAnyH_ready (rs := [24]) (by kernel_rfl) (by simp) ?_
                      refine AllReadyH.cons (o_at HG 24 rfl) ?_ (AllReadyH.nil)
                      · intro K' hK
                        rw [if_pos (by kernel_rfl)]
                        go_simp
                        (with_reducible refine (more_at S2 S0 HS0.out _ _ m _ ?_ HM02.out).mono ?_)
                        · focus ((repeat (first | exact HMW.out | (with_reducible apply RB.drew) | (with_reducible apply RB.alloc))); done)
                        rintro e w' ⟨rfl, rfl⟩
                        refine hK.out _ _ ?_ (fun hS => ?_)
                        · (repeat (first | assumption | (with_reducible apply bel_drew) | (with_reducible apply bel_alloc)))
                        try simp only [Act.put, List.getElem_toArray, List.getElem_cons_zero, List.getElem_cons_succ, List.setIfInBounds_toArray, List.set_cons_zero, List.set_cons_succ]
                        refine wpAnyH_take (i := 26) (v := ?_) (o_at HG 26 rfl) Gns (by kernel_rfl) (by kernel_rfl) (fun _ _ _ h => h) (Or.inl ⟨(by kernel_rfl), ?_⟩) (by first | trivial | assumption) ?_
                        rotate_left
                        · (intro w hSw; (try dsimp only at hSw); go_simp; try with_reducible rfl)
                        try simp only [Act.put, List.getElem_toArray, List.getElem_cons_zero, List.getElem_cons_succ, List.setIfInBounds_toArray, List.set_cons_zero, List.set_cons_succ]
                        refine wpAnyH_take (i := 27) (v := ?_) (o_at HG 27 rfl) Gns (by kernel_rfl) (by kernel_rfl) (fun _ _ _ h => h) (Or.inl ⟨(by kernel_rfl), ?_⟩) (by first | trivial | assumption) ?_
                        rotate_left
                        · (intro w hSw; (try dsimp only at hSw); go_simp; try with_reducible rfl)
                        try simp only [Act.put, List.getElem_toArray, List.getElem_cons_zero, List.getElem_cons_succ, List.setIfInBounds_toArray, List.set_cons_zero, List.set_cons_succ]
                        refine wpAnyH_take (i := 28) (v := ?_) (o_at HG 28 rfl) Gns (by kernel_rfl) (by kernel_rfl) (fun _ _ _ h => h) (Or.inl ⟨(by kernel_rfl), ?_⟩) (by first | trivial | assumption) ?_
                        rotate_left
                        · (intro w hSw; (try dsimp only at hSw); go_simp; try with_reducible rfl)
                        try simp only [Act.put, List.getElem_toArray, List.getElem_cons_zero, List.getElem_cons_succ, List.setIfInBounds_toArray, List.set_cons_zero, List.set_cons_succ]
                        refine wpAnyH_take (i := 29) (v := ?_) (o_at HG 29 rfl) Gns (by kernel_rfl) (by kernel_rfl) (fun _ _ _ h => h) (Or.inl ⟨(by kernel_rfl), ?_⟩) (by first | trivial | assumption) ?_
                        rotate_left
                        · (intro w hSw; (try dsimp only at hSw); go_simp; try with_reducible rfl)
                        try simp only [Act.put, List.getElem_toArray, List.getElem_cons_zero, List.getElem_cons_succ, List.setIfInBounds_toArray, List.set_cons_zero, List.set_cons_succ]
                        refine wpAnyH_take (i := 31) (v := ?_) (o_at HG 31 rfl) Gns (by kernel_rfl) (by kernel_rfl) (fun _ _ _ h => h) (Or.inl ⟨(by kernel_rfl), ?_⟩) (by first | trivial | assumption) ?_
                        rotate_left
                        · (intro w hSw; (try dsimp only at hSw); go_simp; try with_reducible rfl)
                        try simp only [Act.put, List.getElem_toArray, List.getElem_cons_zero, List.getElem_cons_succ, List.setIfInBounds_toArray, List.set_cons_zero, List.set_cons_succ]
                        refine wpAnyH_ready (rs := [30]) (by kernel_rfl) (by simp) ?_
                        refine AllReadyH.cons (o_at HG 30 rfl) ?_ (AllReadyH.nil)
                        · intro K' hK
                          rw [if_pos (by kernel_rfl)]
                          go_simp
                          (with_reducible refine (more_len S2 S2 HS2.out none 0 0 [] rfl _ (RB.nil _ _) (Crc.more_nil _)).mono ?_)
                          rintro e w' ⟨rfl, rfl⟩
                          refine hK.out _ _ ?_ (fun hS => ?_)
                          · (repeat (first | assumption | (with_reducible apply bel_drew) | (with_reducible apply bel_alloc)))
                          try simp only [Act.put, List.getElem_toArray, List.getElem_cons_zero, List.getElem_cons_succ, List.setIfInBounds_toArray, List.set_cons_zero, List.set_cons_succ]
                          refine wpAnyH_take (i := 32) (v := ?_) (o_at HG 32 rfl) Gns (by kernel_rfl) (by kernel_rfl) (fun _ _ _ h => h) (Or.inl ⟨(by kernel_rfl), ?_⟩) (by first | trivial | assumption) ?_
                          rotate_left
                          · (intro w hSw; (try dsimp only at hSw); go_simp; try with_reducible rfl)
                          try simp only [Act.put, List.getElem_toArray, List.getElem_cons_zero, List.getElem_cons_succ, List.setIfInBounds_toArray, List.set_cons_zero, List.set_cons_succ]
                          refine wpAnyH_take (i := 33) (v := ?_) (o_at HG 33 rfl) Gns (by kernel_rfl) (by kernel_rfl) (fun _ _ _ h => h) (Or.inl ⟨(by kernel_rfl), ?_⟩) (by first | trivial | assumption) ?_
                          rotate_left
                          · (intro w hSw; (try dsimp only at hSw); go_simp; try with_reducible rfl)
                          try simp only [Act.put, List.getElem_toArray, List.getElem_cons_zero, List.getElem_cons_succ, List.setIfInBounds_toArray, List.set_cons_zero, List.set_cons_succ]
                          refine wpAnyH_take (i := 34) (v := ?_) (o_at HG 34 rfl) Gns (by kernel_rfl) (by kernel_rfl) (fun _ _ _ h => h) (Or.inl ⟨(by kernel_rfl), ?_⟩) (by first | trivial | assumption) ?_
                          rotate_left
                          · (intro w hSw; (try dsimp only at hSw); go_simp; try with_reducible rfl)
                          try simp only [Act.put, List.getElem_toArray, List.getElem_cons_zero, List.getElem_cons_succ, List.setIfInBounds_toArray, List.set_cons_zero, List.set_cons_succ]
                          refine wpAnyH_take (i := 35) (v := ?_) (o_at HG 35 rfl) Gns (by kernel_rfl) (by kernel_rfl) (fun _ _ _ h => h) (Or.inl ⟨(by kernel_rfl), ?_⟩) (by first | trivial | assumption) ?_
                          rotate_left
                          · (intro w hSw; (try dsimp only at hSw); go_simp; try with_reducible rfl)
                          try simp only [Act.put, List.getElem_toArray, List.getElem_cons_zero, List.getElem_cons_succ, List.setIfInBounds_toArray, List.set_cons_zero, List.set_cons_succ]
                          refine wpAnyH_take (i := 37) (v := ?_) (o_at HG 37 rfl) Gns (by kernel_rfl) (by kernel_rfl) (fun _ _ _ h => h) (Or.inl ⟨(by kernel_rfl), ?_⟩) (by first | trivial | assumption) ?_
                          rotate_left
                          · (intro w hSw; (try dsimp only at hSw); go_simp; try with_reducible rfl)
                          try simp only [Act.put, List.getElem_toArray, List.getElem_cons_zero, List.getElem_cons_succ, List.setIfInBounds_toArray, List.set_cons_zero, List.set_cons_succ]
                          refine wpAnyH_take (i := 39) (v := ?_) (o_at HG 39 rfl) Gns (by kernel_rfl) (by kernel_rfl) (fun _ _ _ h => h) (Or.inl ⟨(by kernel_rfl), ?_⟩) (by first | trivial | assumption) ?_
                          rotate_left
                          · (intro w hSw; (try dsimp only at hSw); go_simp; try with_reducible rfl)
                          try simp only [Act.put, List.getElem_toArray, List.getElem_cons_zero, List.getElem_cons_succ, List.setIfInBounds_toArray, List.set_cons_zero, List.set_cons_succ]
                          refine wpAnyH_ready (rs := [36]) (by kernel_rfl) (by simp) ?_
                          refine AllReadyH.cons (o_at HG 36 rfl) ?_ (AllReadyH.nil)
                          · intro K' hK
                            rw [if_pos (by kernel_rfl)]
                            go_simp
                            refine hK.out _ _ ?_ (fun hS => ?_)
                            · (repeat (first | assumption | (with_reducible apply bel_drew) | (with_reducible apply bel_alloc)))
                            try simp only [Act.put, List.getElem_toArray, List.getElem_cons_zero, List.getElem_cons_succ, List.setIfInBounds_toArray, List.set_cons_zero, List.set_cons_succ]
                            refine wpAnyH_ready (rs := [38]) (by kernel_rfl) (by simp) ?_
                            refine AllReadyH.cons (o_at HG 38 rfl) ?_ (AllReadyH.nil)
                            · intro K' hK
                              refine step_app_bytes (by kernel_rfl) _ _ 24 rfl w.heap.size 5 Try.underlying24 info5 _ [] rfl ?_ _ _ b rfl HC.out.2 ?_ (by simp; omega) ?_ ?_
                              · refine (OB.empty _ _ 5 ?_ _ ?_).drew
                                · have := HB.out.size; simp; omega
                                · simp
                              · focus ((repeat (first | exact HbW.out | (with_reducible apply RB.drew) | (with_reducible apply RB.alloc))); done)
                              · exact hS.size
                              intro v1 w1 ho1 hg1 _
                              rw [List.nil_append] at ho1
                              have HO1 := Lib.hid ho1
                              have hB1 := bel_grown hS hg1 (fun k e => by have := HB.out.size; simp [Value.ownBlock, Act.eval] at e; omega)
                              have HM1 : Hid (RB w1 B m) := HM.out.below hB1
                              clear ho1 hg1
                              refine hK.out _ _ ?_ (fun hS => ?_)
                              · exact hB1
                              try simp only [Act.put, List.getElem_toArray, List.getElem_cons_zero, List.getElem_cons_succ, List.setIfInBounds_toArray, List.set_cons_zero, List.set_cons_succ]
                              refine wpAnyH_ready (rs := [40]) (by kernel_rfl) (by simp) ?_
                              refine AllReadyH.cons (o_at HG 40 rfl) ?_ (AllReadyH.nil)
                              · intro K' hK
                                refine step_app_bytes (by kernel_rfl) _ _ 24 rfl w.heap.size 5 Try.underlying24 info5 _ b rfl HO1.out _ _ m rfl HCM.out.2 HM1.out (by omega) hS.size ?_
                                intro v2 w2 ho2 hg2 _
                                rw [← HBM.out] at ho2
                                have hB2 := bel_grown hS hg2 (fun k e => HO1.out.base_ k e)
                                obtain ⟨A2, c2, hv2, hsv2, hrb2⟩ := ho2.reads
                                subst hv2
                                have HSV2 := Lib.hid hsv2
                                have HRB2 := Lib.hid hrb2
                                clear ho2 hg2 hsv2 hrb2
                                refine hK.out _ _ ?_ (fun hS => ?_)
                                · exact hB2
                                try simp only [Act.put, List.getElem_toArray, List.getElem_cons_zero, List.getElem_cons_succ, List.setIfInBounds_toArray, List.set_cons_zero, List.set_cons_succ]
                                refine wpAnyH_ready (rs := [41]) (by kernel_rfl) (by simp) ?_
                                refine AllReadyH.cons (o_at HG 41 rfl) ?_ (AllReadyH.nil)
                                · intro K' hK
                                  rw [if_pos (by kernel_rfl)]
                                  go_simp
                                  (with_reducible refine (same_len true S2 _ _ _ bm ?_ _ HRB2.out HSV2.out HSB.out).mono ?_)
                                  · first | rfl | exact HBMl.out.symm
                                  rintro e w3 ⟨rfl, hw3⟩
                                  have hB3 := bel_then hS hw3
                                  clear hw3
                                  refine hK.out _ _ ?_ (fun hS => ?_)
                                  · exact hB3
                                  try simp only [Act.put, List.getElem_toArray, List.getElem_cons_zero, List.getElem_cons_succ, List.setIfInBounds_toArray, List.set_cons_zero, List.set_cons_succ]
                                  refine wpAnyH_take (i := 42) (v := ?_) (o_at HG 42 rfl) Gns (by kernel_rfl) (by kernel_rfl) (fun _ _ _ h => h) (Or.inl ⟨(by kernel_rfl), ?_⟩) (by first | trivial | assumption) ?_
                                  rotate_left
                                  · (intro w hSw; (try dsimp only at hSw); go_simp; try with_reducible rfl)
                                  try simp only [Act.put, List.getElem_toArray, List.getElem_cons_zero, List.getElem_cons_succ, List.setIfInBounds_toArray, List.set_cons_zero, List.set_cons_succ]
                                  refine wpAnyH_take (i := 43) (v := ?_) (o_at HG 43 rfl) Gns (by kernel_rfl) (by kernel_rfl) (fun _ _ _ h => h) (Or.inl ⟨(by kernel_rfl), ?_⟩) (by first | trivial | assumption) ?_
                                  rotate_left
                                  · (intro w hSw; (try dsimp only at hSw); go_simp; try with_reducible rfl)
                                  try simp only [Act.put, List.getElem_toArray, List.getElem_cons_zero, List.getElem_cons_succ, List.setIfInBounds_toArray, List.set_cons_zero, List.set_cons_succ]
                                  refine wpAnyH_ready (rs := [44]) (by kernel_rfl) (by simp) ?_
                                  refine AllReadyH.cons (o_at HG 44 rfl) ?_ (AllReadyH.nil)
                                  · intro K' hK
                                    rw [if_pos (by kernel_rfl)]
                                    go_simp
                                    (with_reducible refine (awake_any _).mono ?_)
                                    rintro e w4 ⟨rfl, hw4⟩
                                    have hB4 := bel_then hS hw4
                                    clear hw4
                                    refine hK.out _ _ ?_ (fun hS => ?_)
                                    · exact hB4
                                    try simp only [Act.put, List.getElem_toArray, List.getElem_cons_zero, List.getElem_cons_succ, List.setIfInBounds_toArray, List.set_cons_zero, List.set_cons_succ]
                                    refine wpAnyH_take (i := 45) (v := ?_) (o_at HG 45 rfl) Gns (by kernel_rfl) (by kernel_rfl) (fun _ _ _ h => h) (Or.inl ⟨(by kernel_rfl), ?_⟩) (by first | trivial | assumption) ?_
                                    rotate_left
                                    · (intro w hSw; (try dsimp only at hSw); go_simp; try with_reducible rfl)
                                    try simp only [Act.put, List.getElem_toArray, List.getElem_cons_zero, List.getElem_cons_succ, List.setIfInBounds_toArray, List.set_cons_zero, List.set_cons_succ]
                                    refine wpAnyH_take (i := 46) (v := ?_) (o_at HG 46 rfl) Gns (by kernel_rfl) (by kernel_rfl) (fun _ _ _ h => h) (Or.inl ⟨(by kernel_rfl), ?_⟩) (by first | trivial | assumption) ?_
                                    rotate_left
                                    · (intro w hSw; (try dsimp only at hSw); go_simp; try with_reducible rfl)
                                    try simp only [Act.put, List.getElem_toArray, List.getElem_cons_zero, List.getElem_cons_succ, List.setIfInBounds_toArray, List.set_cons_zero, List.set_cons_succ]
                                    refine wpAnyH_done (by kernel_rfl) ?_ _
                                    go_wp2
                                    go_ret
                                    exact ⟨rfl, hS⟩
          · intro K' hK
            rw [if_pos (by kernel_rfl)]
            go_simp
            refine hK.out _ _ ?_ (fun hS => ?_)
            · (repeat (first | assumption | (with_reducible apply bel_drew) | (with_reducible apply bel_alloc)))
            try simp only [Act.put, List.getElem_toArray, List.getElem_cons_zero, List.getElem_cons_succ, List.setIfInBounds_toArray, List.set_cons_zero, List.set_cons_succ]
            refine wpAnyH_ready (rs := [8]) (by kernel_rfl) (by simp) ?_
            refine AllReadyH.cons (o_at HG 8 rfl) ?_ (AllReadyH.nil)
            · intro K' hK
              rw [if_pos (by kernel_rfl)]
              go_simp
              (with_reducible refine (more_len S0 S1 HS1.out _ _ _ (b.drop k) HLD.out _ ?_ HM10.out).mono ?_)
              · focus ((repeat (first | exact Hb2W.out | (with_reducible apply RB.drew) | (with_reducible apply RB.alloc))); done)
              rintro e w' ⟨rfl, rfl⟩
              refine hK.out _ _ ?_ (fun hS => ?_)
              · (repeat (first | assumption | (with_reducible apply bel_drew) | (with_reducible apply bel_alloc)))
              try simp only [Act.put, List.getElem_toArray, List.getElem_cons_zero, List.getElem_cons_succ, List.setIfInBounds_toArray, List.set_cons_zero, List.set_cons_succ]
              refine wpAnyH_ready (rs := [11]) (by kernel_rfl) (by simp) ?_
              refine AllReadyH.cons (o_at HG 11 rfl) ?_ (AllReadyH.nil)
              · intro K' hK
                rw [if_pos (by kernel_rfl)]
                go_simp
                (with_reducible refine (sum1_at S0 _ _ _ b (H0.out.symm) ?_).mono ?_)
                · focus ((repeat (first | (with_reducible apply RL.drew) | ((with_reducible refine RL.one _ ?_ HC.out ?_ rfl); (focus ((repeat (first | exact HbW.out | (with_reducible apply RB.alloc))); done)); (focus (simp; done))) | (with_reducible apply RL.alloc))); done)
                rintro e w' ⟨rfl, rfl⟩
                refine hK.out _ _ ?_ (fun hS => ?_)
                · (repeat (first | assumption | (with_reducible apply bel_drew) | (with_reducible apply bel_alloc)))
                try simp only [Act.put, List.getElem_toArray, List.getElem_cons_zero, List.getElem_cons_succ, List.setIfInBounds_toArray, List.set_cons_zero, List.set_cons_succ]
                refine wpAnyH_take (i := 12) (v := ?_) (o_at HG 12 rfl) Gns (by kernel_rfl) (by kernel_rfl) (fun _ _ _ h => h) (Or.inl ⟨(by kernel_rfl), ?_⟩) (by first | trivial | assumption) ?_
                rotate_left
                · (intro w hSw; (try dsimp only at hSw); go_simp; try with_reducible rfl)
                try simp only [Act.put, List.getElem_toArray, List.getElem_cons_zero, List.getElem_cons_succ, List.setIfInBounds_toArray, List.set_cons_zero, List.set_cons_succ]
                refine wpAnyH_take (i := 13) (v := ?_) (o_at HG 13 rfl) Gns (by kernel_rfl) (by kernel_rfl) (fun _ _ _ h => h) (Or.inl ⟨(by kernel_rfl), ?_⟩) (by first | trivial | assumption) ?_
                rotate_left
                · (intro w hSw; (try dsimp only at hSw); go_simp; try with_reducible rfl)
                try simp only [Act.put, List.getElem_toArray, List.getElem_cons_zero, List.getElem_cons_succ, List.setIfInBounds_toArray, List.set_cons_zero, List.set_cons_succ]
                refine wpAnyH_take (i := 14) (v := ?_) (o_at HG 14 rfl) Gns (by kernel_rfl) (by kernel_rfl) (fun _ _ _ h => h) (Or.inl ⟨(by kernel_rfl), ?_⟩) (by first | trivial | assumption) ?_
                rotate_left
                · (intro w hSw; (try dsimp only at hSw); go_simp; try with_reducible rfl)
                try simp only [Act.put, List.getElem_toArray, List.getElem_cons_zero, List.getElem_cons_succ, List.setIfInBounds_toArray, List.set_cons_zero, List.set_cons_succ]
                refine wpAnyH_take (i := 15) (v := ?_) (o_at HG 15 rfl) Gns (by kernel_rfl) (by kernel_rfl) (fun _ _ _ h => h) (Or.inl ⟨(by kernel_rfl), ?_⟩) (by first | trivial | assumption) ?_
                rotate_left
                · (intro w hSw; (try dsimp only at hSw); go_simp; try with_reducible rfl)
                try simp only [Act.put, List.getElem_toArray, List.getElem_cons_zero, List.getElem_cons_succ, List.setIfInBounds_toArray, List.set_cons_zero, List.set_cons_succ]
                refine wpAnyH_take (i := 16) (v := ?_) (o_at HG 16 rfl) Gns (by kernel_rfl) (by kernel_rfl) (fun _ _ _ h => h) (Or.inl ⟨(by kernel_rfl), ?_⟩) (by first | trivial | assumption) ?_
                rotate_left
                · (intro w hSw; (try dsimp only at hSw); go_simp; try with_reducible rfl)
                try simp only [Act.put, List.getElem_toArray, List.getElem_cons_zero, List.getElem_cons_succ, List.setIfInBounds_toArray, List.set_cons_zero, List.set_cons_succ]
                refine wpAnyH_take (i := 19) (v := ?_) (o_at HG 19 rfl) Gns (by kernel_rfl) (by kernel_rfl) (fun _ _ _ h => h) (Or.inl ⟨(by kernel_rfl), ?_⟩) (by first | trivial | assumption) ?_
                rotate_left
                · (intro w hSw; (try dsimp only at hSw); go_simp; try with_reducible rfl)
                try simp only [Act.put, List.getElem_toArray, List.getElem_cons_zero, List.getElem_cons_succ, List.setIfInBounds_toArray, List.set_cons_zero, List.set_cons_succ]
                refine wpAnyH_take (i := 20) (v := ?_) (o_at HG 20 rfl) Gns (by kernel_rfl) (by kernel_rfl) (fun _ _ _ h => h) (Or.inl ⟨(by kernel_rfl), ?_⟩) (by first | trivial | assumption) ?_
                rotate_left
                · (intro w hSw; (try dsimp only at hSw); go_simp; try with_reducible rfl)
                try simp only [Act.put, List.getElem_toArray, List.getElem_cons_zero, List.getElem_cons_succ, List.setIfInBounds_toArray, List.set_cons_zero, List.set_cons_succ]
                refine wpAnyH_take (i := 21) (v := ?_) (o_at HG 21 rfl) Gns (by kernel_rfl) (by kernel_rfl) (fun _ _ _ h => h) (Or.inl ⟨(by kernel_rfl), ?_⟩) (by first | trivial | assumption) ?_
                rotate_left
                · (intro w hSw; (try dsimp only at hSw); go_simp; try with_reducible rfl)
                try simp only [Act.put, List.getElem_toArray, List.getElem_cons_zero, List.getElem_cons_succ, List.setIfInBounds_toArray, List.set_cons_zero, List.set_cons_succ]
                refine wpAnyH_take (i := 23) (v := ?_) (o_at HG 23 rfl) Gns (by kernel_rfl) (by kernel_rfl) (fun _ _ _ h => h) (Or.inl ⟨(by kernel_rfl), ?_⟩) (by first | trivial | assumption) ?_
                rotate_left
                · (intro w hSw; (try dsimp only at hSw); go_simp; try with_reducible rfl)
                try simp only [Act.put, List.getElem_toArray, List.getElem_cons_zero, List.getElem_cons_succ, List.setIfInBounds_toArray, List.set_cons_zero, List.set_cons_succ]
                refine wpAnyH_take (i := 25) (v := ?_) (o_at HG 25 rfl) Gns (by kernel_rfl) (by kernel_rfl) (fun _ _ _ h => h) (Or.inl ⟨(by kernel_rfl), ?_⟩) (by first | trivial | assumption) ?_
                rotate_left
                · (intro w hSw; (try dsimp only at hSw); go_simp; try with_reducible rfl)
                try simp only [Act.put, List.getElem_toArray, List.getElem_cons_zero, List.getElem_cons_succ, List.setIfInBounds_toArray, List.set_cons_zero, List.set_cons_succ]
                refine wpAnyH_ready (rs := [17]) (by kernel_rfl) (by simp) ?_
                refine AllReadyH.cons (o_at HG 17 rfl) ?_ (AllReadyH.nil)
                · intro K' hK
                  rw [if_pos (by kernel_rfl)]
                  go_simp
                  refine hK.out _ _ ?_ (fun hS => ?_)
                  · (repeat (first | assumption | (with_reducible apply bel_drew) | (with_reducible apply bel_alloc)))
                  try simp only [Act.put, List.getElem_toArray, List.getElem_cons_zero, List.getElem_cons_succ, List.setIfInBounds_toArray, List.set_cons_zero, List.set_cons_succ]
                  refine wpAnyH_ready (rs := [18]) (by kernel_rfl) (by simp) ?_
                  refine AllReadyH.cons (o_at HG 18 rfl) ?_ (AllReadyH.nil)
                  · intro K' hK
                    rw [if_pos (by kernel_rfl)]
                    go_simp
                    (with_reducible refine (sum1_at S1 _ _ _ (b.take k) (H1.out.symm) ?_).mono ?_)
                    · focus ((repeat (first | (with_reducible apply RL.drew) | ((with_reducible refine RL.one _ ?_ HSV1.out ?_ HLK.out.symm); (focus ((repeat (first | exact Hb1W.out | (with_reducible apply RB.alloc))); done)); (focus (simp; done))) | (with_reducible apply RL.alloc))); done)
                    rintro e w' ⟨rfl, rfl⟩
                    refine hK.out _ _ ?_ (fun hS => ?_)
                    · (repeat (first | assumption | (with_reducible apply bel_drew) | (with_reducible apply bel_alloc)))
                    try simp only [Act.put, List.getElem_toArray, List.getElem_cons_zero, List.getElem_cons_succ, List.setIfInBounds_toArray, List.set_cons_zero, List.set_cons_succ]
                    refine wpAnyH_ready (rs := [22]) (by kernel_rfl) (by simp) ?_
                    refine AllReadyH.cons (o_at HG 22 rfl) ?_ (AllReadyH.nil)
                    · intro K' hK
                      rw [if_pos (by kernel_rfl)]
                      go_simp
                      (with_reducible refine (more_len S0 S1 HS1.out _ _ _ (b.drop k) HLD.out _ ?_ HM10.out).mono ?_)
                      · focus ((repeat (first | exact Hb2W.out | (with_reducible apply RB.drew) | (with_reducible apply RB.alloc))); done)
                      rintro e w' ⟨rfl, rfl⟩
                      refine hK.out _ _ ?_ (fun hS => ?_)
                      · (repeat (first | assumption | (with_reducible apply bel_drew) | (with_reducible apply bel_alloc)))
                      try simp only [Act.put, List.getElem_toArray, List.getElem_cons_zero, List.getElem_cons_succ, List.setIfInBounds_toArray, List.set_cons_zero, List.set_cons_succ]
                      refine wpAnyH_ready (rs := [24]) (by kernel_rfl) (by simp) ?_
                      refine AllReadyH.cons (o_at HG 24 rfl) ?_ (AllReadyH.nil)
                      · intro K' hK
                        rw [if_pos (by kernel_rfl)]
                        go_simp
                        (with_reducible refine (more_at S2 S0 HS0.out _ _ m _ ?_ HM02.out).mono ?_)
                        · focus ((repeat (first | exact HMW.out | (with_reducible apply RB.drew) | (with_reducible apply RB.alloc))); done)
                        rintro e w' ⟨rfl, rfl⟩
                        refine hK.out _ _ ?_ (fun hS => ?_)
                        · (repeat (first | assumption | (with_reducible apply bel_drew) | (with_reducible apply bel_alloc)))
                        try simp only [Act.put, List.getElem_toArray, List.getElem_cons_zero, List.getElem_cons_succ, List.setIfInBounds_toArray, List.set_cons_zero, List.set_cons_succ]
                        refine wpAnyH_take (i := 26) (v := ?_) (o_at HG 26 rfl) Gns (by kernel_rfl) (by kernel_rfl) (fun _ _ _ h => h) (Or.inl ⟨(by kernel_rfl), ?_⟩) (by first | trivial | assumption) ?_
                        rotate_left
                        · (intro w hSw; (try dsimp only at hSw); go_simp; try with_reducible rfl)
                        try simp only [Act.put, List.getElem_toArray, List.getElem_cons_zero, List.getElem_cons_succ, List.setIfInBounds_toArray, List.set_cons_zero, List.set_cons_succ]
                        refine wpAnyH_take (i := 27) (v := ?_) (o_at HG 27 rfl) Gns (by kernel_rfl) (by kernel_rfl) (fun _ _ _ h => h) (Or.inl ⟨(by kernel_rfl), ?_⟩) (by first | trivial | assumption) ?_
                        rotate_left
                        · (intro w hSw; (try dsimp only at hSw); go_simp; try with_reducible rfl)
                        try simp only [Act.put, List.getElem_toArray, List.getElem_cons_zero, List.getElem_cons_succ, List.setIfInBounds_toArray, List.set_cons_zero, List.set_cons_succ]
                        refine wpAnyH_take (i := 28) (v := ?_) (o_at HG 28 rfl) Gns (by kernel_rfl) (by kernel_rfl) (fun _ _ _ h => h) (Or.inl ⟨(by kernel_rfl), ?_⟩) (by first | trivial | assumption) ?_
                        rotate_left
                        · (intro w hSw; (try dsimp only at hSw); go_simp; try with_reducible rfl)
                        try simp only [Act.put, List.getElem_toArray, List.getElem_cons_zero, List.getElem_cons_succ, List.setIfInBounds_toArray, List.set_cons_zero, List.set_cons_succ]
                        refine wpAnyH_take (i := 29) (v := ?_) (o_at HG 29 rfl) Gns (by kernel_rfl) (by kernel_rfl) (fun _ _ _ h => h) (Or.inl ⟨(by kernel_rfl), ?_⟩) (by first | trivial | assumption) ?_
                        rotate_left
                        · (intro w hSw; (try dsimp only at hSw); go_simp; try with_reducible rfl)
                        try simp only [Act.put, List.getElem_toArray, List.getElem_cons_zero, List.getElem_cons_succ, List.setIfInBounds_toArray, List.set_cons_zero, List.set_cons_succ]
                        refine wpAnyH_take (i := 31) (v := ?_) (o_at HG 31 rfl) Gns (by kernel_rfl) (by kernel_rfl) (fun _ _ _ h => h) (Or.inl ⟨(by kernel_rfl), ?_⟩) (by first | trivial | assumption) ?_
                        rotate_left
                        · (intro w hSw; (try dsimp only at hSw); go_simp; try with_reducible rfl)
                        try simp only [Act.put, List.getElem_toArray, List.getElem_cons_zero, List.getElem_cons_succ, List.setIfInBounds_toArray, List.set_cons_zero, List.set_cons_succ]
                        refine wpAnyH_ready (rs := [30]) (by kernel_rfl) (by simp) ?_
                        refine AllReadyH.cons (o_at HG 30 rfl) ?_ (AllReadyH.nil)
                        · intro K' hK
                          rw [if_pos (by kernel_rfl)]
                          go_simp
                          (with_reducible refine (more_len S2 S2 HS2.out none 0 0 [] rfl _ (RB.nil _ _) (Crc.more_nil _)).mono ?_)
                          rintro e w' ⟨rfl, rfl⟩
                          refine hK.out _ _ ?_ (fun hS => ?_)
                          · (repeat (first | assumption | (with_reducible apply bel_drew) | (with_reducible apply bel_alloc)))
                          try simp only [Act.put, List.getElem_toArray, List.getElem_cons_zero, List.getElem_cons_succ, List.setIfInBounds_toArray, List.set_cons_zero, List.set_cons_succ]
                          refine wpAnyH_take (i := 32) (v := ?_) (o_at HG 32 rfl) Gns (by kernel_rfl) (by kernel_rfl) (fun _ _ _ h => h) (Or.inl ⟨(by kernel_rfl), ?_⟩) (by first | trivial | assumption) ?_
                          rotate_left
                          · (intro w hSw; (try dsimp only at hSw); go_simp; try with_reducible rfl)
                          try simp only [Act.put, List.getElem_toArray, List.getElem_cons_zero, List.getElem_cons_succ, List.setIfInBounds_toArray, List.set_cons_zero, List.set_cons_succ]
                          refine wpAnyH_take (i := 33) (v := ?_) (o_at HG 33 rfl) Gns (by kernel_rfl) (by kernel_rfl) (fun _ _ _ h => h) (Or.inl ⟨(by kernel_rfl), ?_⟩) (by first | trivial | assumption) ?_
                          rotate_left
                          · (intro w hSw; (try dsimp only at hSw); go_simp; try with_reducible rfl)
                          try simp only [Act.put, List.getElem_toArray, List.getElem_cons_zero, List.getElem_cons_succ, List.setIfInBounds_toArray, List.set_cons_zero, List.set_cons_succ]
                          refine wpAnyH_take (i := 34) (v := ?_) (o_at HG 34 rfl) Gns (by kernel_rfl) (by kernel_rfl) (fun _ _ _ h => h) (Or.inl ⟨(by kernel_rfl), ?_⟩) (by first | trivial | assumption) ?_
                          rotate_left
                          · (intro w hSw; (try dsimp only at hSw); go_simp; try with_reducible rfl)
                          try simp only [Act.put, List.getElem_toArray, List.getElem_cons_zero, List.getElem_cons_succ, List.setIfInBounds_toArray, List.set_cons_zero, List.set_cons_succ]
                          refine wpAnyH_take (i := 35) (v := ?_) (o_at HG 35 rfl) Gns (by kernel_rfl) (by kernel_rfl) (fun _ _ _ h => h) (Or.inl ⟨(by kernel_rfl), ?_⟩) (by first | trivial | assumption) ?_
                          rotate_left
                          · (intro w hSw; (try dsimp only at hSw); go_simp; try with_reducible rfl)
                          try simp only [Act.put, List.getElem_toArray, List.getElem_cons_zero, List.getElem_cons_succ, List.setIfInBounds_toArray, List.set_cons_zero, List.set_cons_succ]
                          refine wpAnyH_take (i := 37) (v := ?_) (o_at HG 37 rfl) Gns (by kernel_rfl) (by kernel_rfl) (fun _ _ _ h => h) (Or.inl ⟨(by kernel_rfl), ?_⟩) (by first | trivial | assumption) ?_
                          rotate_left
                          · (intro w hSw; (try dsimp only at hSw); go_simp; try with_reducible rfl)
                          try simp only [Act.put, List.getElem_toArray, List.getElem_cons_zero, List.getElem_cons_succ, List.setIfInBounds_toArray, List.set_cons_zero, List.set_cons_succ]
                          refine wpAnyH_take (i := 39) (v := ?_) (o_at HG 39 rfl) Gns (by kernel_rfl) (by kernel_rfl) (fun _ _ _ h => h) (Or.inl ⟨(by kernel_rfl), ?_⟩) (by first | trivial | assumption) ?_
                          rotate_left
                          · (intro w hSw; (try dsimp only at hSw); go_simp; try with_reducible rfl)
                          try simp only [Act.put, List.getElem_toArray, List.getElem_cons_zero, List.getElem_cons_succ, List.setIfInBounds_toArray, List.set_cons_zero, List.set_cons_succ]
                          refine wpAnyH_ready (rs := [36]) (by kernel_rfl) (by simp) ?_
                          refine AllReadyH.cons (o_at HG 36 rfl) ?_ (AllReadyH.nil)
                          · intro K' hK
                            rw [if_pos (by kernel_rfl)]
                            go_simp
                            refine hK.out _ _ ?_ (fun hS => ?_)
                            · (repeat (first | assumption | (with_reducible apply bel_drew) | (with_reducible apply bel_alloc)))
                            try simp only [Act.put, List.getElem_toArray, List.getElem_cons_zero, List.getElem_cons_succ, List.setIfInBounds_toArray, List.set_cons_zero, List.set_cons_succ]
                            refine wpAnyH_ready (rs := [38]) (by kernel_rfl) (by simp) ?_
                            refine AllReadyH.cons (o_at HG 38 rfl) ?_ (AllReadyH.nil)
                            · intro K' hK
                              refine step_app_bytes (by kernel_rfl) _ _ 24 rfl w.heap.size 5 Try.underlying24 info5 _ [] rfl ?_ _ _ b rfl HC.out.2 ?_ (by simp; omega) ?_ ?_
                              · refine (OB.empty _ _ 5 ?_ _ ?_).drew
                                · have := HB.out.size; simp; omega
                                · simp
                              · focus ((repeat (first | exact HbW.out | (with_reducible apply RB.drew) | (with_reducible apply RB.alloc))); done)
                              · exact hS.size
                              intro v1 w1 ho1 hg1 _
                              rw [List.nil_append] at ho1
                              have HO1 := Lib.hid ho1
                              have hB1 := bel_grown hS hg1 (fun k e => by have := HB.out.size; simp [Value.ownBlock, Act.eval] at e; omega)
                              have HM1 : Hid (RB w1 B m) := HM.out.below hB1
                              clear ho1 hg1
                              refine hK.out _ _ ?_ (fun hS => ?_)
                              · exact hB1
                              try simp only [Act.put, List.getElem_toArray, List.getElem_cons_zero, List.getElem_cons_succ, List.setIfInBounds_toArray, List.set_cons_zero, List.set_cons_succ]
                              refine wpAnyH_ready (rs := [40]) (by kernel_rfl) (by simp) ?_
                              refine AllReadyH.cons (o_at HG 40 rfl) ?_ (AllReadyH.nil)
                              · intro K' hK
                                refine step_app_bytes (by kernel_rfl) _ _ 24 rfl w.heap.size 5 Try.underlying24 info5 _ b rfl HO1.out _ _ m rfl HCM.out.2 HM1.out (by omega) hS.size ?_
                                intro v2 w2 ho2 hg2 _
                                rw [← HBM.out] at ho2
                                have hB2 := bel_grown hS hg2 (fun k e => HO1.out.base_ k e)
                                obtain ⟨A2, c2, hv2, hsv2, hrb2⟩ := ho2.reads
                                subst hv2
                                have HSV2 := Lib.hid hsv2
                                have HRB2 := Lib.hid hrb2
                                clear ho2 hg2 hsv2 hrb2
                                refine hK.out _ _ ?_ (fun hS => ?_)
                                · exact hB2
                                try simp only [Act.put, List.getElem_toArray, List.getElem_cons_zero, List.getElem_cons_succ, List.setIfInBounds_toArray, List.set_cons_zero, List.set_cons_succ]
                                refine wpAnyH_ready (rs := [41]) (by kernel_rfl) (by simp) ?_
                                refine AllReadyH.cons (o_at HG 41 rfl) ?_ (AllReadyH.nil)
                                · intro K' hK
                                  rw [if_pos (by kernel_rfl)]
                                  go_simp
                                  (with_reducible refine (same_len true S2 _ _ _ bm ?_ _ HRB2.out HSV2.out HSB.out).mono ?_)
                                  · first | rfl | exact HBMl.out.symm
                                  rintro e w3 ⟨rfl, hw3⟩
                                  have hB3 := bel_then hS hw3
                                  clear hw3
                                  refine hK.out _ _ ?_ (fun hS => ?_)
                                  · exact hB3
                                  try simp only [Act.put, List.getElem_toArray, List.getElem_cons_zero, List.getElem_cons_succ, List.setIfInBounds_toArray, List.set_cons_zero, List.set_cons_succ]
                                  refine wpAnyH_take (i := 42) (v := ?_) (o_at HG 42 rfl) Gns (by kernel_rfl) (by kernel_rfl) (fun _ _ _ h => h) (Or.inl ⟨(by kernel_rfl), ?_⟩) (by first | trivial | assumption) ?_
                                  rotate_left
                                  · (intro w hSw; (try dsimp only at hSw); go_simp; try with_reducible rfl)
                                  try simp only [Act.put, List.getElem_toArray, List.getElem_cons_zero, List.getElem_cons_succ, List.setIfInBounds_toArray, List.set_cons_zero, List.set_cons_succ]
                                  refine wpAnyH_take (i := 43) (v := ?_) (o_at HG 43 rfl) Gns (by kernel_rfl) (by kernel_rfl) (fun _ _ _ h => h) (Or.inl ⟨(by kernel_rfl), ?_⟩) (by first | trivial | assumption) ?_
                                  rotate_left
                                  · (intro w hSw; (try dsimp only at hSw); go_simp; try with_reducible rfl)
                                  try simp only [Act.put, List.getElem_toArray, List.getElem_cons_zero, List.getElem_cons_succ, List.setIfInBounds_toArray, List.set_cons_zero, List.set_cons_succ]
                                  refine wpAnyH_ready (rs := [44]) (by kernel_rfl) (by simp) ?_
                                  refine AllReadyH.cons (o_at HG 44 rfl) ?_ (AllReadyH.nil)
                                  · intro K' hK
                                    rw [if_pos (by kernel_rfl)]
                                    go_simp
                                    (with_reducible refine (awake_any _).mono ?_)
                                    rintro e w4 ⟨rfl, hw4⟩
                                    have hB4 := bel_then hS hw4
                                    clear hw4
                                    refine hK.out _ _ ?_ (fun hS => ?_)
                                    · exact hB4
                                    try simp only [Act.put, List.getElem_toArray, List.getElem_cons_zero, List.getElem_cons_succ, List.setIfInBounds_toArray, List.set_cons_zero, List.set_cons_succ]
                                    refine wpAnyH_take (i := 45) (v := ?_) (o_at HG 45 rfl) Gns (by kernel_rfl) (by kernel_rfl) (fun _ _ _ h => h) (Or.inl ⟨(by kernel_rfl), ?_⟩) (by first | trivial | assumption) ?_
                                    rotate_left
                                    · (intro w hSw; (try dsimp only at hSw); go_simp; try with_reducible rfl)
                                    try simp only [Act.put, List.getElem_toArray, List.getElem_cons_zero, List.getElem_cons_succ, List.setIfInBounds_toArray, List.set_cons_zero, List.set_cons_succ]
                                    refine wpAnyH_take (i := 46) (v := ?_) (o_at HG 46 rfl) Gns (by kernel_rfl) (by kernel_rfl) (fun _ _ _ h => h) (Or.inl ⟨(by kernel_rfl), ?_⟩) (by first | trivial | assumption) ?_
                                    rotate_left
                                    · (intro w hSw; (try dsimp only at hSw); go_simp; try with_reducible rfl)
                                    try simp only [Act.put, List.getElem_toArray, List.getElem_cons_zero, List.getElem_cons_succ, List.setIfInBounds_toArray, List.set_cons_zero, List.set_cons_succ]
                                    refine wpAnyH_done (by kernel_rfl) ?_ _
                                    go_wp2
                                    go_ret
                                    exact ⟨rfl, hS⟩
        · intro K' hK
          rw [if_pos (by kernel_rfl)]
          go_simp
          refine hK.out _ _ ?_ (fun hS => ?_)
          · (repeat (first | assumption | (with_reducible apply bel_drew) | (with_reducible apply bel_alloc)))
          try simp only [Act.put, List.getElem_toArray, List.getElem_cons_zero, List.getElem_cons_succ, List.setIfInBounds_toArray, List.set_cons_zero, List.set_cons_succ]
          refine wpAnyH_ready (rs := [4]) (by kernel_rfl) (by simp) ?_
          refine AllReadyH.cons (o_at HG 4 rfl) ?_ (AllReadyH.nil)
          · intro K' hK
            rw [if_pos (by kernel_rfl)]
            go_simp
            (with_reducible refine (sum1_at S1 _ _ _ (b.take k) (H1.out.symm) ?_).mono ?_)
            · focus ((repeat (first | (with_reducible apply RL.drew) | ((with_reducible refine RL.one _ ?_ HSV1.out ?_ HLK.out.symm); (focus ((repeat (first | exact Hb1W.out | (with_reducible apply RB.alloc))); done)); (focus (simp; done))) | (with_reducible apply RL.alloc))); done)
            rintro e w' ⟨rfl, rfl⟩
            refine hK.out _ _ ?_ (fun hS => ?_)
            · (repeat (first | assumption | (with_reducible apply bel_drew) | (with_reducible apply bel_alloc)))
            try simp only [Act.put, List.getElem_toArray, List.getElem_cons_zero, List.getElem_cons_succ, List.setIfInBounds_toArray, List.set_cons_zero, List.set_cons_succ]
            refine wpAnyH_ready (rs := [8]) (by kernel_rfl) (by simp) ?_
            refine AllReadyH.cons (o_at HG 8 rfl) ?_ (AllReadyH.nil)
            · intro K' hK
              rw [if_pos (by kernel_rfl)]
              go_simp
              (with_reducible refine (more_len S0 S1 HS1.out _ _ _ (b.drop k) HLD.out _ ?_ HM10.out).mono ?_)
              · focus ((repeat (first | exact Hb2W.out | (with_reducible apply RB.drew) | (with_reducible apply RB.alloc))); done)
              rintro e w' ⟨rfl, rfl⟩
              refine hK.out _ _ ?_ (fun hS => ?_)
              · (repeat (first | assumption | (with_reducible apply bel_drew) | (with_reducible apply bel_alloc)))
              try simp only [Act.put, List.getElem_toArray, List.getElem_cons_zero, List.getElem_cons_succ, List.setIfInBounds_toArray, List.set_cons_zero, List.set_cons_succ]
              refine wpAnyH_ready (rs := [11]) (by kernel_rfl) (by simp) ?_
              refine AllReadyH.cons (o_at HG 11 rfl) ?_ (AllReadyH.nil)
              · intro K' hK
                rw [if_pos (by kernel_rfl)]
                go_simp
                (with_reducible refine (sum1_at S0 _ _ _ b (H0.out.symm) ?_).mono ?_)
                · focus ((repeat (first | (with_reducible apply RL.drew) | ((with_reducible refine RL.one _ ?_ HC.out ?_ rfl); (focus ((repeat (first | exact HbW.out | (with_reducible apply RB.alloc))); done)); (focus (simp; done))) | (with_reducible apply RL.alloc))); done)
                rintro e w' ⟨rfl, rfl⟩
                refine hK.out _ _ ?_ (fun hS => ?_)
                · (repeat (first | assumption | (with_reducible apply bel_drew) | (with_reducible apply bel_alloc)))
                try simp only [Act.put, List.getElem_toArray, List.getElem_cons_zero, List.getElem_cons_succ, List.setIfInBounds_toArray, List.set_cons_zero, List.set_cons_succ]
                refine wpAnyH_take (i := 12) (v := ?_) (o_at HG 12 rfl) Gns (by kernel_rfl) (by kernel_rfl) (fun _ _ _ h => h) (Or.inl ⟨(by kernel_rfl), ?_⟩) (by first | trivial | assumption) ?_
                rotate_left
                · (intro w hSw; (try dsimp only at hSw); go_simp; try with_reducible rfl)
                try simp only [Act.put, List.getElem_toArray, List.getElem_cons_zero, List.getElem_cons_succ, List.setIfInBounds_toArray, List.set_cons_zero, List.set_cons_succ]
                refine wpAnyH_take (i := 13) (v := ?_) (o_at HG 13 rfl) Gns (by kernel_rfl) (by kernel_rfl) (fun _ _ _ h => h) (Or.inl ⟨(by kernel_rfl), ?_⟩) (by first | trivial | assumption) ?_
                rotate_left
                · (intro w hSw; (try dsimp only at hSw); go_simp; try with_reducible rfl)
                try simp only [Act.put, List.getElem_toArray, List.getElem_cons_zero, List.getElem_cons_succ, List.setIfInBounds_toArray, List.set_cons_zero, List.set_cons_succ]
                refine wpAnyH_take (i := 14) (v := ?_) (o_at HG 14 rfl) Gns (by kernel_rfl) (by kernel_rfl) (fun _ _ _ h => h) (Or.inl ⟨(by kernel_rfl), ?_⟩) (by first | trivial | assumption) ?_
                rotate_left
                · (intro w hSw; (try dsimp only at hSw); go_simp; try with_reducible rfl)
                try simp only [Act.put, List.getElem_toArray, List.getElem_cons_zero, List.getElem_cons_succ, List.setIfInBounds_toArray, List.set_cons_zero, List.set_cons_succ]
                refine wpAnyH_take (i := 15) (v := ?_) (o_at HG 15 rfl) Gns (by kernel_rfl) (by kernel_rfl) (fun _ _ _ h => h) (Or.inl ⟨(by kernel_rfl), ?_⟩) (by first | trivial | assumption) ?_
                rotate_left
                · (intro w hSw; (try dsimp only at hSw); go_simp; try with_reducible rfl)
                try simp only [Act.put, List.getElem_toArray, List.getElem_cons_zero, List.getElem_cons_succ, List.setIfInBounds_toArray, List.set_cons_zero, List.set_cons_succ]
                refine wpAnyH_take (i := 16) (v := ?_) (o_at HG 16 rfl) Gns (by kernel_rfl) (by kernel_rfl) (fun _ _ _ h => h) (Or.inl ⟨(by kernel_rfl), ?_⟩) (by first | trivial | assumption) ?_
                rotate_left
                · (intro w hSw; (try dsimp only at hSw); go_simp; try with_reducible rfl)
                try simp only [Act.put, List.getElem_toArray, List.getElem_cons_zero, List.getElem_cons_succ, List.setIfInBounds_toArray, List.set_cons_zero, List.set_cons_succ]
                refine wpAnyH_take (i := 19) (v := ?_) (o_at HG 19 rfl) Gns (by kernel_rfl) (by kernel_rfl) (fun _ _ _ h => h) (Or.inl ⟨(by kernel_rfl), ?_⟩) (by first | trivial | assumption) ?_
                rotate_left
                · (intro w hSw; (try dsimp only at hSw); go_simp; try with_reducible rfl)
                try simp only [Act.put, List.getElem_toArray, List.getElem_cons_zero, List.getElem_cons_succ, List.setIfInBounds_toArray, List.set_cons_zero, List.set_cons_succ]
                refine wpAnyH_take (i := 20) (v := ?_) (o_at HG 20 rfl) Gns (by kernel_rfl) (by kernel_rfl) (fun _ _ _ h => h) (Or.inl ⟨(by kernel_rfl), ?_⟩) (by first | trivial | assumption) ?_
                rotate_left
                · (intro w hSw; (try dsimp only at hSw); go_simp; try with_reducible rfl)
                try simp only [Act.put, List.getElem_toArray, List.getElem_cons_zero, List.getElem_cons_succ, List.setIfInBounds_toArray, List.set_cons_zero, List.set_cons_succ]
                refine wpAnyH_take (i := 21) (v := ?_) (o_at HG 21 rfl) Gns (by kernel_rfl) (by kernel_rfl) (fun _ _ _ h => h) (Or.inl ⟨(by kernel_rfl), ?_⟩) (by first | trivial | assumption) ?_
                rotate_left
                · (intro w hSw; (try dsimp only at hSw); go_simp; try with_reducible rfl)
                try simp only [Act.put, List.getElem_toArray, List.getElem_cons_zero, List.getElem_cons_succ, List.setIfInBounds_toArray, List.set_cons_zero, List.set_cons_succ]
                refine wpAnyH_take (i := 23) (v := ?_) (o_at HG 23 rfl) Gns (by kernel_rfl) (by kernel_rfl) (fun _ _ _ h => h) (Or.inl ⟨(by kernel_rfl), ?_⟩) (by first | trivial | assumption) ?_
                rotate_left
                · (intro w hSw; (try dsimp only at hSw); go_simp; try with_reducible rfl)
                try simp only [Act.put, List.getElem_toArray, List.getElem_cons_zero, List.getElem_cons_succ, List.setIfInBounds_toArray, List.set_cons_zero, List.set_cons_succ]
                refine wpAnyH_take (i := 25) (v := ?_) (o_at HG 25 rfl) Gns (by kernel_rfl) (by kernel_rfl) (fun _ _ _ h => h) (Or.inl ⟨(by kernel_rfl), ?_⟩) (by first | trivial | assumption) ?_
                rotate_left
                · (intro w hSw; (try dsimp only at hSw); go_simp; try with_reducible rfl)
                try simp only [Act.put, List.getElem_toArray, List.getElem_cons_zero, List.getElem_cons_succ, List.setIfInBounds_toArray, List.set_cons_zero, List.set_cons_succ]
                refine wpAnyH_ready (rs := [17]) (by kernel_rfl) (by simp) ?_
                refine AllReadyH.cons (o_at HG 17 rfl) ?_ (AllReadyH.nil)
                · intro K' hK
                  rw [if_pos (by kernel_rfl)]
                  go_simp
                  refine hK.out _ _ ?_ (fun hS => ?_)
                  · (repeat (first | assumption | (with_reducible apply bel_drew) | (with_reducible apply bel_alloc)))
                  try simp only [Act.put, List.getElem_toArray, List.getElem_cons_zero, List.getElem_cons_succ, List.setIfInBounds_toArray, List.set_cons_zero, List.set_cons_succ]
                  refine wpAnyH_ready (rs := [18]) (by kernel_rfl) (by simp) ?_
                  refine AllReadyH.cons (o_at HG 18 rfl) ?_ (AllReadyH.nil)
                  · intro K' hK
                    rw [if_pos (by kernel_rfl)]
                    go_simp
                    (with_reducible refine (sum1_at S1 _ _ _ (b.take k) (H1.out.symm) ?_).mono ?_)
                    · focus ((repeat (first | (with_reducible apply RL.drew) | ((with_reducible refine RL.one _ ?_ HSV1.out ?_ HLK.out.symm); (focus ((repeat (first | exact Hb1W.out | (with_reducible apply RB.alloc))); done)); (focus (simp; done))) | (with_reducible apply RL.alloc))); done)
                    rintro e w' ⟨rfl, rfl⟩
                    refine hK.out _ _ ?_ (fun hS => ?_)
                    · (repeat (first | assumption | (with_reducible apply bel_drew) | (with_reducible apply bel_alloc)))
                    try simp only [Act.put, List.getElem_toArray, List.getElem_cons_zero, List.getElem_cons_succ, List.setIfInBounds_toArray, List.set_cons_zero, List.set_cons_succ]
                    refine wpAnyH_ready (rs := [22]) (by kernel_rfl) (by simp) ?_
                    refine AllReadyH.cons (o_at HG 22 rfl) ?_ (AllReadyH.nil)
                    · intro K' hK
                      rw [if_pos (by kernel_rfl)]
                      go_simp
                      (with_reducible refine (more_len S0 S1 HS1.out _ _ _ (b.drop k) HLD.out _ ?_ HM10.out).mono ?_)
                      · focus ((repeat (first | exact Hb2W.out | (with_reducible apply RB.drew) | (with_reducible apply RB.alloc))); done)
                      rintro e w' ⟨rfl, rfl⟩
                      refine hK.out _ _ ?_ (fun hS => ?_)
                      · (repeat (first | assumption | (with_reducible apply bel_drew) | (with_reducible apply bel_alloc)))
                      try simp only [Act.put, List.getElem_toArray, List.getElem_cons_zero, List.getElem_cons_succ, List.setIfInBounds_toArray, List.set_cons_zero, List.set_cons_succ]
                      refine wpAnyH_ready (rs := [24]) (by kernel_rfl) (by simp) ?_
                      refine AllReadyH.cons (o_at HG 24 rfl) ?_ (AllReadyH.nil)
                      · intro K' hK
                        rw [if_pos (by kernel_rfl)]
                        go_simp
                        (with_reducible refine (more_at S2 S0 HS0.out _ _ m _ ?_ HM02.out).mono ?_)
                        · focus ((repeat (first | exact HMW.out | (with_reducible apply RB.drew) | (with_reducible apply RB.alloc))); done)
                        rintro e w' ⟨rfl, rfl⟩
                        refine hK.out _ _ ?_ (fun hS => ?_)
                        · (repeat (first | assumption | (with_reducible apply bel_drew) | (with_reducible apply bel_alloc)))
                        try simp only [Act.put, List.getElem_toArray, List.getElem_cons_zero, List.getElem_cons_succ, List.setIfInBounds_toArray, List.set_cons_zero, List.set_cons_succ]
                        refine wpAnyH_take (i := 26) (v := ?_) (o_at HG 26 rfl) Gns (by kernel_rfl) (by kernel_rfl) (fun _ _ _ h => h) (Or.inl ⟨(by kernel_rfl), ?_⟩) (by first | trivial | assumption) ?_
                        rotate_left
                        · (intro w hSw; (try dsimp only at hSw); go_simp; try with_reducible rfl)
                        try simp only [Act.put, List.getElem_toArray, List.getElem_cons_zero, List.getElem_cons_succ, List.setIfInBounds_toArray, List.set_cons_zero, List.set_cons_succ]
                        refine wpAnyH_take (i := 27) (v := ?_) (o_at HG 27 rfl) Gns (by kernel_rfl) (by kernel_rfl) (fun _ _ _ h => h) (Or.inl ⟨(by kernel_rfl), ?_⟩) (by first | trivial | assumption) ?_
                        rotate_left
                        · (intro w hSw; (try dsimp only at hSw); go_simp; try with_reducible rfl)
                        try simp only [Act.put, List.getElem_toArray, List.getElem_cons_zero, List.getElem_cons_succ, List.setIfInBounds_toArray, List.set_cons_zero, List.set_cons_succ]
                        refine wpAnyH_take (i := 28) (v := ?_) (o_at HG 28 rfl) Gns (by kernel_rfl) (by kernel_rfl) (fun _ _ _ h => h) (Or.inl ⟨(by kernel_rfl), ?_⟩) (by first | trivial | assumption) ?_
                        rotate_left
                        · (intro w hSw; (try dsimp only at hSw); go_simp; try with_reducible rfl)
                        try simp only [Act.put, List.getElem_toArray, List.getElem_cons_zero, List.getElem_cons_succ, List.setIfInBounds_toArray, List.set_cons_zero, List.set_cons_succ]
                        refine wpAnyH_take (i := 29) (v := ?_) (o_at HG 29 rfl) Gns (by kernel_rfl) (by kernel_rfl) (fun _ _ _ h => h) (Or.inl ⟨(by kernel_rfl), ?_⟩) (by first | trivial | assumption) ?_
                        rotate_left
                        · (intro w hSw; (try dsimp only at hSw); go_simp; try with_reducible rfl)
                        try simp only [Act.put, List.getElem_toArray, List.getElem_cons_zero, List.getElem_cons_succ, List.setIfInBounds_toArray, List.set_cons_zero, List.set_cons_succ]
                        refine wpAnyH_take (i := 31) (v := ?_) (o_at HG 31 rfl) Gns (by kernel_rfl) (by kernel_rfl) (fun _ _ _ h => h) (Or.inl ⟨(by kernel_rfl), ?_⟩) (by first | trivial | assumption) ?_
                        rotate_left
                        · (intro w hSw; (try dsimp only at hSw); go_simp; try with_reducible rfl)
                        try simp only [Act.put, List.getElem_toArray, List.getElem_cons_zero, List.getElem_cons_succ, List.setIfInBounds_toArray, List.set_cons_zero, List.set_cons_succ]
                        refine wpAnyH_ready (rs := [30]) (by kernel_rfl) (by simp) ?_
                        refine AllReadyH.cons (o_at HG 30 rfl) ?_ (AllReadyH.nil)
                        · intro K' hK
                          rw [if_pos (by kernel_rfl)]
                          go_simp
                          (with_reducible refine (more_len S2 S2 HS2.out none 0 0 [] rfl _ (RB.nil _ _) (Crc.more_nil _)).mono ?_)
                          rintro e w' ⟨rfl, rfl⟩
                          refine hK.out _ _ ?_ (fun hS => ?_)
                          · (repeat (first | assumption | (with_reducible apply bel_drew) | (with_reducible apply bel_alloc)))
                          try simp only [Act.put, List.getElem_toArray, List.getElem_cons_zero, List.getElem_cons_succ, List.setIfInBounds_toArray, List.set_cons_zero, List.set_cons_succ]
                          refine wpAnyH_take (i := 32) (v := ?_) (o_at HG 32 rfl) Gns (by kernel_rfl) (by kernel_rfl) (fun _ _ _ h => h) (Or.inl ⟨(by kernel_rfl), ?_⟩) (by first | trivial | assumption) ?_
                          rotate_left
                          · (intro w hSw; (try dsimp only at hSw); go_simp; try with_reducible rfl)
                          try simp only [Act.put, List.getElem_toArray, List.getElem_cons_zero, List.getElem_cons_succ, List.setIfInBounds_toArray, List.set_cons_zero, List.set_cons_succ]
                          refine wpAnyH_take (i := 33) (v := ?_) (o_at HG 33 rfl) Gns (by kernel_rfl) (by kernel_rfl) (fun _ _ _ h => h) (Or.inl ⟨(by kernel_rfl), ?_⟩) (by first | trivial | assumption) ?_
                          rotate_left
                          · (intro w hSw; (try dsimp only at hSw); go_simp; try with_reducible rfl)
                          try simp only [Act.put, List.getElem_toArray, List.getElem_cons_zero, List.getElem_cons_succ, List.setIfInBounds_toArray, List.set_cons_zero, List.set_cons_succ]
                          refine wpAnyH_take (i := 34) (v := ?_) (o_at HG 34 rfl) Gns (by kernel_rfl) (by kernel_rfl) (fun _ _ _ h => h) (Or.inl ⟨(by kernel_rfl), ?_⟩) (by first | trivial | assumption) ?_
                          rotate_left
                          · (intro w hSw; (try dsimp only at hSw); go_simp; try with_reducible rfl)
                          try simp only [Act.put, List.getElem_toArray, List.getElem_cons_zero, List.getElem_cons_succ, List.setIfInBounds_toArray, List.set_cons_zero, List.set_cons_succ]
                          refine wpAnyH_take (i := 35) (v := ?_) (o_at HG 35 rfl) Gns (by kernel_rfl) (by kernel_rfl) (fun _ _ _ h => h) (Or.inl ⟨(by kernel_rfl), ?_⟩) (by first | trivial | assumption) ?_
                          rotate_left
                          · (intro w hSw; (try dsimp only at hSw); go_simp; try with_reducible rfl)
                          try simp only [Act.put, List.getElem_toArray, List.getElem_cons_zero, List.getElem_cons_succ, List.setIfInBounds_toArray, List.set_cons_zero, List.set_cons_succ]
                          refine wpAnyH_take (i := 37) (v := ?_) (o_at HG 37 rfl) Gns (by kernel_rfl) (by kernel_rfl) (fun _ _ _ h => h) (Or.inl ⟨(by kernel_rfl), ?_⟩) (by first | trivial | assumption) ?_
                          rotate_left
                          · (intro w hSw; (try dsimp only at hSw); go_simp; try with_reducible rfl)
                          try simp only [Act.put, List.getElem_toArray, List.getElem_cons_zero, List.getElem_cons_succ, List.setIfInBounds_toArray, List.set_cons_zero, List.set_cons_succ]
                          refine wpAnyH_take (i := 39) (v := ?_) (o_at HG 39 rfl) Gns (by kernel_rfl) (by kernel_rfl) (fun _ _ _ h => h) (Or.inl ⟨(by kernel_rfl), ?_⟩) (by first | trivial | assumption) ?_
                          rotate_left
                          · (intro w hSw; (try dsimp only at hSw); go_simp; try with_reducible rfl)
                          try simp only [Act.put, List.getElem_toArray, List.getElem_cons_zero, List.getElem_cons_succ, List.setIfInBounds_toArray, List.set_cons_zero, List.set_cons_succ]
                          refine wpAnyH_ready (rs := [36]) (by kernel_rfl) (by simp) ?_
                          refine AllReadyH.cons (o_at HG 36 rfl) ?_ (AllReadyH.nil)
                          · intro K' hK
                            rw [if_pos (by kernel_rfl)]
                            go_simp
                            refine hK.out _ _ ?_ (fun hS => ?_)
                            · (repeat (first | assumption | (with_reducible apply bel_drew) | (with_reducible apply bel_alloc)))
                            try simp only [Act.put, List.getElem_toArray, List.getElem_cons_zero, List.getElem_cons_succ, List.setIfInBounds_toArray, List.set_cons_zero, List.set_cons_succ]
                            refine wpAnyH_ready (rs := [38]) (by kernel_rfl) (by simp) ?_
                            refine AllReadyH.cons (o_at HG 38 rfl) ?_ (AllReadyH.nil)
                            · intro K' hK
                              refine step_app_bytes (by kernel_rfl) _ _ 24 rfl w.heap.size 5 Try.underlying24 info5 _ [] rfl ?_ _ _ b rfl HC.out.2 ?_ (by simp; omega) ?_ ?_
                              · refine (OB.empty _ _ 5 ?_ _ ?_).drew
                                · have := HB.out.size; simp; omega
                                · simp
                              · focus ((repeat (first | exact HbW.out | (with_reducible apply RB.drew) | (with_reducible apply RB.alloc))); done)
                              · exact hS.size
                              intro v1 w1 ho1 hg1 _
                              rw [List.nil_append] at ho1
                              have HO1 := Lib.hid ho1
                              have hB1 := bel_grown hS hg1 (fun k e => by have := HB.out.size; simp [Value.ownBlock, Act.eval] at e; omega)
                              have HM1 : Hid (RB w1 B m) := HM.out.below hB1
                              clear ho1 hg1
                              refine hK.out _ _ ?_ (fun hS => ?_)
                              · exact hB1
                              try simp only [Act.put, List.getElem_toArray, List.getElem_cons_zero, List.getElem_cons_succ, List.setIfInBounds_toArray, List.set_cons_zero, List.set_cons_succ]
                              refine wpAnyH_ready (rs := [40]) (by kernel_rfl) (by simp) ?_
                              refine AllReadyH.cons (o_at HG 40 rfl) ?_ (AllReadyH.nil)
                              · intro K' hK
                                refine step_app_bytes (by kernel_rfl) _ _ 24 rfl w.heap.size 5 Try.underlying24 info5 _ b rfl HO1.out _ _ m rfl HCM.out.2 HM1.out (by omega) hS.size ?_
                                intro v2 w2 ho2 hg2 _
                                rw [← HBM.out] at ho2
                                have hB2 := bel_grown hS hg2 (fun k e => HO1.out.base_ k e)
                                obtain ⟨A2, c2, hv2, hsv2, hrb2⟩ := ho2.reads
                                subst hv2
                                have HSV2 := Lib.hid hsv2
                                have HRB2 := Lib.hid hrb2
                                clear ho2 hg2 hsv2 hrb2
                                refine hK.out _ _ ?_ (fun hS => ?_)
                                · exact hB2
                                try simp only [Act.put, List.getElem_toArray, List.getElem_cons_zero, List.getElem_cons_succ, List.setIfInBounds_toArray, List.set_cons_zero, List.set_cons_succ]
                                refine wpAnyH_ready (rs := [41]) (by kernel_rfl) (by simp) ?_
                                refine AllReadyH.cons (o_at HG 41 rfl) ?_ (AllReadyH.nil)
                                · intro K' hK
                                  rw [if_pos (by kernel_rfl)]
                                  go_simp
                                  (with_reducible refine (same_len true S2 _ _ _ bm ?_ _ HRB2.out HSV2.out HSB.out).mono ?_)
                                  · first | rfl | exact HBMl.out.symm
                                  rintro e w3 ⟨rfl, hw3⟩
                                  have hB3 := bel_then hS hw3
                                  clear hw3
                                  refine hK.out _ _ ?_ (fun hS => ?_)
                                  · exact hB3
                                  try simp only [Act.put, List.getElem_toArray, List.getElem_cons_zero, List.getElem_cons_succ, List.setIfInBounds_toArray, List.set_cons_zero, List.set_cons_succ]
                                  refine wpAnyH_take (i := 42) (v := ?_) (o_at HG 42 rfl) Gns (by kernel_rfl) (by kernel_rfl) (fun _ _ _ h => h) (Or.inl ⟨(by kernel_rfl), ?_⟩) (by first | trivial | assumption) ?_
                                  rotate_left
                                  · (intro w hSw; (try dsimp only at hSw); go_simp; try with_reducible rfl)
                                  try simp only [Act.put, List.getElem_toArray, List.getElem_cons_zero, List.getElem_cons_succ, List.setIfInBounds_toArray, List.set_cons_zero, List.set_cons_succ]
                                  refine wpAnyH_take (i := 43) (v := ?_) (o_at HG 43 rfl) Gns (by kernel_rfl) (by kernel_rfl) (fun _ _ _ h => h) (Or.inl ⟨(by kernel_rfl), ?_⟩) (by first | trivial | assumption) ?_
                                  rotate_left
                                  · (intro w hSw; (try dsimp only at hSw); go_simp; try with_reducible rfl)
                                  try simp only [Act.put, List.getElem_toArray, List.getElem_cons_zero, List.getElem_cons_succ, List.setIfInBounds_toArray, List.set_cons_zero, List.set_cons_succ]
                                  refine wpAnyH_ready (rs := [44]) (by kernel_rfl) (by simp) ?_
                                  refine AllReadyH.cons (o_at HG 44 rfl) ?_ (AllReadyH.nil)
                                  · intro K' hK
                                    rw [if_pos (by kernel_rfl)]
                                    go_simp
                                    (with_reducible refine (awake_any _).mono ?_)
                                    rintro e w4 ⟨rfl, hw4⟩
                                    have hB4 := bel_then hS hw4
                                    clear hw4
                                    refine hK.out _ _ ?_ (fun hS => ?_)
                                    · exact hB4
                                    try simp only [Act.put, List.getElem_toArray, List.getElem_cons_zero, List.getElem_cons_succ, List.setIfInBounds_toArray, List.set_cons_zero, List.set_cons_succ]
                                    refine wpAnyH_take (i := 45) (v := ?_) (o_at HG 45 rfl) Gns (by kernel_rfl) (by kernel_rfl) (fun _ _ _ h => h) (Or.inl ⟨(by kernel_rfl), ?_⟩) (by first | trivial | assumption) ?_
                                    rotate_left
                                    · (intro w hSw; (try dsimp only at hSw); go_simp; try with_reducible rfl)
                                    try simp only [Act.put, List.getElem_toArray, List.getElem_cons_zero, List.getElem_cons_succ, List.setIfInBounds_toArray, List.set_cons_zero, List.set_cons_succ]
                                    refine wpAnyH_take (i := 46) (v := ?_) (o_at HG 46 rfl) Gns (by kernel_rfl) (by kernel_rfl) (fun _ _ _ h => h) (Or.inl ⟨(by kernel_rfl), ?_⟩) (by first | trivial | assumption) ?_
                                    rotate_left
                                    · (intro w hSw; (try dsimp only at hSw); go_simp; try with_reducible rfl)
                                    try simp only [Act.put, List.getElem_toArray, List.getElem_cons_zero, List.getElem_cons_succ, List.setIfInBounds_toArray, List.set_cons_zero, List.set_cons_succ]
                                    refine wpAnyH_done (by kernel_rfl) ?_ _
                                    go_wp2
                                    go_ret
                                    exact ⟨rfl, hS⟩
      · intro K' hK
        rw [if_pos (by kernel_rfl)]
        go_simp
        refine hK.out _ _ ?_ (fun hS => ?_)
        · (repeat (first | assumption | (with_reducible apply bel_drew) | (with_reducible apply bel_alloc)))
        try simp only [Act.put, List.getElem_toArray, List.getElem_cons_zero, List.getElem_cons_succ, List.setIfInBounds_toArray, List.set_cons_zero, List.set_cons_succ]
        refine wpAnyH_ready (rs := [3]) (by kernel_rfl) (by simp) ?_
        refine AllReadyH.cons (o_at HG 3 rfl) ?_ (AllReadyH.nil)
        · intro K' hK
          rw [if_pos (by kernel_rfl)]
          go_simp
          refine hK.out _ _ ?_ (fun hS => ?_)
          · (repeat (first | assumption | (with_reducible apply bel_drew) | (with_reducible apply bel_alloc)))
          try simp only [Act.put, List.getElem_toArray, List.getElem_cons_zero, List.getElem_cons_succ, List.setIfInBounds_toArray, List.set_cons_zero, List.set_cons_succ]
          refine wpAnyH_ready (rs := [4]) (by kernel_rfl) (by simp) ?_
          refine AllReadyH.cons (o_at HG 4 rfl) ?_ (AllReadyH.nil)
          · intro K' hK
            rw [if_pos (by kernel_rfl)]
            go_simp
            (with_reducible refine (sum1_at S1 _ _ _ (b.take k) (H1.out.symm) ?_).mono ?_)
            · focus ((repeat (first | (with_reducible apply RL.drew) | ((with_reducible refine RL.one _ ?_ HSV1.out ?_ HLK.out.symm); (focus ((repeat (first | exact Hb1W.out | (with_reducible apply RB.alloc))); done)); (focus (simp; done))) | (with_reducible apply RL.alloc))); done)
            rintro e w' ⟨rfl, rfl⟩
            refine hK.out _ _ ?_ (fun hS => ?_)
            · (repeat (first | assumption | (with_reducible apply bel_drew) | (with_reducible apply bel_alloc)))
            try simp only [Act.put, List.getElem_toArray, List.getElem_cons_zero, List.getElem_cons_succ, List.setIfInBounds_toArray, List.set_cons_zero, List.set_cons_succ]
            refine wpAnyH_ready (rs := [8]) (by kernel_rfl) (by simp) ?_
            refine AllReadyH.cons (o_at HG 8 rfl) ?_ (AllReadyH.nil)
            · intro K' hK
              rw [if_pos (by kernel_rfl)]
              go_simp
              (with_reducible refine (more_len S0 S1 HS1.out _ _ _ (b.drop k) HLD.out _ ?_ HM10.out).mono ?_)
              · focus ((repeat (first | exact Hb2W.out | (with_reducible apply RB.drew) | (with_reducible apply RB.alloc))); done)
              rintro e w' ⟨rfl, rfl⟩
              refine hK.out _ _ ?_ (fun hS => ?_)
              · (repeat (first | assumption | (with_reducible apply bel_drew) | (with_reducible apply bel_alloc)))
              try simp only [Act.put, List.getElem_toArray, List.getElem_cons_zero, List.getElem_cons_succ, List.setIfInBounds_toArray, List.set_cons_zero, List.set_cons_succ]
              refine wpAnyH_ready (rs := [11]) (by kernel_rfl) (by simp) ?_
              refine AllReadyH.cons (o_at HG 11 rfl) ?_ (AllReadyH.nil)
              · intro K' hK
                rw [if_pos (by kernel_rfl)]
                go_simp
                (with_reducible refine (sum1_at S0 _ _ _ b (H0.out.symm) ?_).mono ?_)
                · focus ((repeat (first | (with_reducible apply RL.drew) | ((with_reducible refine RL.one _ ?_ HC.out ?_ rfl); (focus ((repeat (first | exact HbW.out | (with_reducible apply RB.alloc))); done)); (focus (simp; done))) | (with_reducible apply RL.alloc))); done)
                rintro e w' ⟨rfl, rfl⟩
                refine hK.out _ _ ?_ (fun hS => ?_)
                · (repeat (first | assumption | (with_reducible apply bel_drew) | (with_reducible apply bel_alloc)))
                try simp only [Act.put, List.getElem_toArray, List.getElem_cons_zero, List.getElem_cons_succ, List.setIfInBounds_toArray, List.set_cons_zero, List.set_cons_succ]
                refine wpAnyH_take (i := 12) (v := ?_) (o_at HG 12 rfl) Gns (by kernel_rfl) (by kernel_rfl) (fun _ _ _ h => h) (Or.inl ⟨(by kernel_rfl), ?_⟩) (by first | trivial | assumption) ?_
                rotate_left
                · (intro w hSw; (try dsimp only at hSw); go_simp; try with_reducible rfl)
                try simp only [Act.put, List.getElem_toArray, List.getElem_cons_zero, List.getElem_cons_succ, List.setIfInBounds_toArray, List.set_cons_zero, List.set_cons_succ]
                refine wpAnyH_take (i := 13) (v := ?_) (o_at HG 13 rfl) Gns (by kernel_rfl) (by kernel_rfl) (fun _ _ _ h => h) (Or.inl ⟨(by kernel_rfl), ?_⟩) (by first | trivial | assumption) ?_
                rotate_left
                · (intro w hSw; (try dsimp only at hSw); go_simp; try with_reducible rfl)
                try simp only [Act.put, List.getElem_toArray, List.getElem_cons_zero, List.getElem_cons_succ, List.setIfInBounds_toArray, List.set_cons_zero, List.set_cons_succ]
                refine wpAnyH_take (i := 14) (v := ?_) (o_at HG 14 rfl) Gns (by kernel_rfl) (by kernel_rfl) (fun _ _ _ h => h) (Or.inl ⟨(by kernel_rfl), ?_⟩) (by first | trivial | assumption) ?_
                rotate_left
                · (intro w hSw; (try dsimp only at hSw); go_simp; try with_reducible rfl)
                try simp only [Act.put, List.getElem_toArray, List.getElem_cons_zero, List.getElem_cons_succ, List.setIfInBounds_toArray, List.set_cons_zero, List.set_cons_succ]
                refine wpAnyH_take (i := 15) (v := ?_) (o_at HG 15 rfl) Gns (by kernel_rfl) (by kernel_rfl) (fun _ _ _ h => h) (Or.inl ⟨(by kernel_rfl), ?_⟩) (by first | trivial | assumption) ?_
                rotate_left
                · (intro w hSw; (try dsimp only at hSw); go_simp; try with_reducible rfl)
                try simp only [Act.put, List.getElem_toArray, List.getElem_cons_zero, List.getElem_cons_succ, List.setIfInBounds_toArray, List.set_cons_zero, List.set_cons_succ]
                refine wpAnyH_take (i := 16) (v := ?_) (o_at HG 16 rfl) Gns (by kernel_rfl) (by kernel_rfl) (fun _ _ _ h => h) (Or.inl ⟨(by kernel_rfl), ?_⟩) (by first | trivial | assumption) ?_
                rotate_left
                · (intro w hSw; (try dsimp only at hSw); go_simp; try with_reducible rfl)
                try simp only [Act.put, List.getElem_toArray, List.getElem_cons_zero, List.getElem_cons_succ, List.setIfInBounds_toArray, List.set_cons_zero, List.set_cons_succ]
                refine wpAnyH_take (i := 19) (v := ?_) (o_at HG 19 rfl) Gns (by kernel_rfl) (by kernel_rfl) (fun _ _ _ h => h) (Or.inl ⟨(by kernel_rfl), ?_⟩) (by first | trivial | assumption) ?_
                rotate_left
                · (intro w hSw; (try dsimp only at hSw); go_simp; try with_reducible rfl)
                try simp only [Act.put, List.getElem_toArray, List.getElem_cons_zero, List.getElem_cons_succ, List.setIfInBounds_toArray, List.set_cons_zero, List.set_cons_succ]
                refine wpAnyH_take (i := 20) (v := ?_) (o_at HG 20 rfl) Gns (by kernel_rfl) (by kernel_rfl) (fun _ _ _ h => h) (Or.inl ⟨(by kernel_rfl), ?_⟩) (by first | trivial | assumption) ?_
                rotate_left
                · (intro w hSw; (try dsimp only at hSw); go_simp; try with_reducible rfl)
                try simp only [Act.put, List.getElem_toArray, List.getElem_cons_zero, List.getElem_cons_succ, List.setIfInBounds_toArray, List.set_cons_zero, List.set_cons_succ]
                refine wpAnyH_take (i := 21) (v := ?_) (o_at HG 21 rfl) Gns (by kernel_rfl) (by kernel_rfl) (fun _ _ _ h => h) (Or.inl ⟨(by kernel_rfl), ?_⟩) (by first | trivial | assumption) ?_
                rotate_left
                · (intro w hSw; (try dsimp only at hSw); go_simp; try with_reducible rfl)
                try simp only [Act.put, List.getElem_toArray, List.getElem_cons_zero, List.getElem_cons_succ, List.setIfInBounds_toArray, List.set_cons_zero, List.set_cons_succ]
                refine wpAnyH_take (i := 23) (v := ?_) (o_at HG 23 rfl) Gns (by kernel_rfl) (by kernel_rfl) (fun _ _ _ h => h) (Or.inl ⟨(by kernel_rfl), ?_⟩) (by first | trivial | assumption) ?_
                rotate_left
                · (intro w hSw; (try dsimp only at hSw); go_simp; try with_reducible rfl)
                try simp only [Act.put, List.getElem_toArray, List.getElem_cons_zero, List.getElem_cons_succ, List.setIfInBounds_toArray, List.set_cons_zero, List.set_cons_succ]
                refine wpAnyH_take (i := 25) (v := ?_) (o_at HG 25 rfl) Gns (by kernel_rfl) (by kernel_rfl) (fun _ _ _ h => h) (Or.inl ⟨(by kernel_rfl), ?_⟩) (by first | trivial | assumption) ?_
                rotate_left
                · (intro w hSw; (try dsimp only at hSw); go_simp; try with_reducible rfl)
                try simp only [Act.put, List.getElem_toArray, List.getElem_cons_zero, List.getElem_cons_succ, List.setIfInBounds_toArray, List.set_cons_zero, List.set_cons_succ]
                refine wpAnyH_ready (rs := [17]) (by kernel_rfl) (by simp) ?_
                refine AllReadyH.cons (o_at HG 17 rfl) ?_ (AllReadyH.nil)
                · intro K' hK
                  rw [if_pos (by kernel_rfl)]
                  go_simp
                  refine hK.out _ _ ?_ (fun hS => ?_)
                  · (repeat (first | assumption | (with_reducible apply bel_drew) | (with_reducible apply bel_alloc)))
                  try simp only [Act.put, List.getElem_toArray, List.getElem_cons_zero, List.getElem_cons_succ, List.setIfInBounds_toArray, List.set_cons_zero, List.set_cons_succ]
                  refine wpAnyH_ready (rs := [18]) (by kernel_rfl) (by simp) ?_
                  refine AllReadyH.cons (o_at HG 18 rfl) ?_ (AllReadyH.nil)
                  · intro K' hK
                    rw [if_pos (by kernel_rfl)]
                    go_simp
                    (with_reducible refine (sum1_at S1 _ _ _ (b.take k) (H1.out.symm) ?_).mono ?_)
                    · focus ((repeat (first | (with_reducible apply RL.drew) | ((with_reducible refine RL.one _ ?_ HSV1.out ?_ HLK.out.symm); (focus ((repeat (first | exact Hb1W.out | (with_reducible apply RB.alloc))); done)); (focus (simp; done))) | (with_reducible apply RL.alloc))); done)
                    rintro e w' ⟨rfl, rfl⟩
                    refine hK.out _ _ ?_ (fun hS => ?_)
                    · (repeat (first | assumption | (with_reducible apply bel_drew) | (with_reducible apply bel_alloc)))
                    try simp only [Act.put, List.getElem_toArray, List.getElem_cons_zero, List.getElem_cons_succ, List.setIfInBounds_toArray, List.set_cons_zero, List.set_cons_succ]
                    refine wpAnyH_ready (rs := [22]) (by kernel_rfl) (by simp) ?_
                    refine AllReadyH.cons (o_at HG 22 rfl) ?_ (AllReadyH.nil)
                    · intro K' hK
                      rw [if_pos (by kernel_rfl)]
                      go_simp
                      (with_reducible refine (more_len S0 S1 HS1.out _ _ _ (b.drop k) HLD.out _ ?_ HM10.out).mono ?_)
                      · focus ((repeat (first | exact Hb2W.out | (with_reducible apply RB.drew) | (with_reducible apply RB.alloc))); done)
                      rintro e w' ⟨rfl, rfl⟩
                      refine hK.out _ _ ?_ (fun hS => ?_)
                      · (repeat (first | assumption | (with_reducible apply bel_drew) | (with_reducible apply bel_alloc)))
                      try simp only [Act.put, List.getElem_toArray, List.getElem_cons_zero, List.getElem_cons_succ, List.setIfInBounds_toArray, List.set_cons_zero, List.set_cons_succ]
                      refine wpAnyH_ready (rs := [24]) (by kernel_rfl) (by simp) ?_
                      refine AllReadyH.cons (o_at HG 24 rfl) ?_ (AllReadyH.nil)
                      · intro K' hK
                        rw [if_pos (by kernel_rfl)]
                        go_simp
                        (with_reducible refine (more_at S2 S0 HS0.out _ _ m _ ?_ HM02.out).mono ?_)
                        · focus ((repeat (first | exact HMW.out | (with_reducible apply RB.drew) | (with_reducible apply RB.alloc))); done)
                        rintro e w' ⟨rfl, rfl⟩
                        refine hK.out _ _ ?_ (fun hS => ?_)
                        · (repeat (first | assumption | (with_reducible apply bel_drew) | (with_reducible apply bel_alloc)))
                        try simp only [Act.put, List.getElem_toArray, List.getElem_cons_zero, List.getElem_cons_succ, List.setIfInBounds_toArray, List.set_cons_zero, List.set_cons_succ]
                        refine wpAnyH_take (i := 26) (v := ?_) (o_at HG 26 rfl) Gns (by kernel_rfl) (by kernel_rfl) (fun _ _ _ h => h) (Or.inl ⟨(by kernel_rfl), ?_⟩) (by first | trivial | assumption) ?_
                        rotate_left
                        · (intro w hSw; (try dsimp only at hSw); go_simp; try with_reducible rfl)
                        try simp only [Act.put, List.getElem_toArray, List.getElem_cons_zero, List.getElem_cons_succ, List.setIfInBounds_toArray, List.set_cons_zero, List.set_cons_succ]
                        refine wpAnyH_take (i := 27) (v := ?_) (o_at HG 27 rfl) Gns (by kernel_rfl) (by kernel_rfl) (fun _ _ _ h => h) (Or.inl ⟨(by kernel_rfl), ?_⟩) (by first | trivial | assumption) ?_
                        rotate_left
                        · (intro w hSw; (try dsimp only at hSw); go_simp; try with_reducible rfl)
                        try simp only [Act.put, List.getElem_toArray, List.getElem_cons_zero, List.getElem_cons_succ, List.setIfInBounds_toArray, List.set_cons_zero, List.set_cons_succ]
                        refine wpAnyH_take (i := 28) (v := ?_) (o_at HG 28 rfl) Gns (by kernel_rfl) (by kernel_rfl) (fun _ _ _ h => h) (Or.inl ⟨(by kernel_rfl), ?_⟩) (by first | trivial | assumption) ?_
                        rotate_left
                        · (intro w hSw; (try dsimp only at hSw); go_simp; try with_reducible rfl)
                        try simp only [Act.put, List.getElem_toArray, List.getElem_cons_zero, List.getElem_cons_succ, List.setIfInBounds_toArray, List.set_cons_zero, List.set_cons_succ]
                        refine wpAnyH_take (i := 29) (v := ?_) (o_at HG 29 rfl) Gns (by kernel_rfl) (by kernel_rfl) (fun _ _ _ h => h) (Or.inl ⟨(by kernel_rfl), ?_⟩) (by first | trivial | assumption) ?_
                        rotate_left
                        · (intro w hSw; (try dsimp only at hSw); go_simp; try with_reducible rfl)
                        try simp only [Act.put, List.getElem_toArray, List.getElem_cons_zero, List.getElem_cons_succ, List.setIfInBounds_toArray, List.set_cons_zero, List.set_cons_succ]
                        refine wpAnyH_take (i := 31) (v := ?_) (o_at HG 31 rfl) Gns (by kernel_rfl) (by kernel_rfl) (fun _ _ _ h => h) (Or.inl ⟨(by kernel_rfl), ?_⟩) (by first | trivial | assumption) ?_
                        rotate_left
                        · (intro w hSw; (try dsimp only at hSw); go_simp; try with_reducible rfl)
                        try simp only [Act.put, List.getElem_toArray, List.getElem_cons_zero, List.getElem_cons_succ, List.setIfInBounds_toArray, List.set_cons_zero, List.set_cons_succ]
                        refine wpAnyH_ready (rs := [30]) (by kernel_rfl) (by simp) ?_
                        refine AllReadyH.cons (o_at HG 30 rfl) ?_ (AllReadyH.nil)
                        · intro K' hK
                          rw [if_pos (by kernel_rfl)]
                          go_simp
                          (with_reducible refine (more_len S2 S2 HS2.out none 0 0 [] rfl _ (RB.nil _ _) (Crc.more_nil _)).mono ?_)
                          rintro e w' ⟨rfl, rfl⟩
                          refine hK.out _ _ ?_ (fun hS => ?_)
                          · (repeat (first | assumption | (with_reducible apply bel_drew) | (with_reducible apply bel_alloc)))
                          try simp only [Act.put, List.getElem_toArray, List.getElem_cons_zero, List.getElem_cons_succ, List.setIfInBounds_toArray, List.set_cons_zero, List.set_cons_succ]
                          refine wpAnyH_take (i := 32) (v := ?_) (o_at HG 32 rfl) Gns (by kernel_rfl) (by kernel_rfl) (fun _ _ _ h => h) (Or.inl ⟨(by kernel_rfl), ?_⟩) (by first | trivial | assumption) ?_
                          rotate_left
                          · (intro w hSw; (try dsimp only at hSw); go_simp; try with_reducible rfl)
                          try simp only [Act.put, List.getElem_toArray, List.getElem_cons_zero, List.getElem_cons_succ, List.setIfInBounds_toArray, List.set_cons_zero, List.set_cons_succ]
                          refine wpAnyH_take (i := 33) (v := ?_) (o_at HG 33 rfl) Gns (by kernel_rfl) (by kernel_rfl) (fun _ _ _ h => h) (Or.inl ⟨(by kernel_rfl), ?_⟩) (by first | trivial | assumption) ?_
                          rotate_left
                          · (intro w hSw; (try dsimp only at hSw); go_simp; try with_reducible rfl)
                          try simp only [Act.put, List.getElem_toArray, List.getElem_cons_zero, List.getElem_cons_succ, List.setIfInBounds_toArray, List.set_cons_zero, List.set_cons_succ]
                          refine wpAnyH_take (i := 34) (v := ?_) (o_at HG 34 rfl) Gns (by kernel_rfl) (by kernel_rfl) (fun _ _ _ h => h) (Or.inl ⟨(by kernel_rfl), ?_⟩) (by first | trivial | assumption) ?_
                          rotate_left
                          · (intro w hSw; (try dsimp only at hSw); go_simp; try with_reducible rfl)
                          try simp only [Act.put, List.getElem_toArray, List.getElem_cons_zero, List.getElem_cons_succ, List.setIfInBounds_toArray, List.set_cons_zero, List.set_cons_succ]
                          refine wpAnyH_take (i := 35) (v := ?_) (o_at HG 35 rfl) Gns (by kernel_rfl) (by kernel_rfl) (fun _ _ _ h => h) (Or.inl ⟨(by kernel_rfl), ?_⟩) (by first | trivial | assumption) ?_
                          rotate_left
                          · (intro w hSw; (try dsimp only at hSw); go_simp; try with_reducible rfl)
                          try simp only [Act.put, List.getElem_toArray, List.getElem_cons_zero, List.getElem_cons_succ, List.setIfInBounds_toArray, List.set_cons_zero, List.set_cons_succ]
                          refine wpAnyH_take (i := 37) (v := ?_) (o_at HG 37 rfl) Gns (by kernel_rfl) (by kernel_rfl) (fun _ _ _ h => h) (Or.inl ⟨(by kernel_rfl), ?_⟩) (by first | trivial | assumption) ?_
                          rotate_left
                          · (intro w hSw; (try dsimp only at hSw); go_simp; try with_reducible rfl)
                          try simp only [Act.put, List.getElem_toArray, List.getElem_cons_zero, List.getElem_cons_succ, List.setIfInBounds_toArray, List.set_cons_zero, List.set_cons_succ]
                          refine wpAnyH_take (i := 39) (v := ?_) (o_at HG 39 rfl) Gns (by kernel_rfl) (by kernel_rfl) (fun _ _ _ h => h) (Or.inl ⟨(by kernel_rfl), ?_⟩) (by first | trivial | assumption) ?_
                          rotate_left
                          · (intro w hSw; (try dsimp only at hSw); go_simp; try with_reducible rfl)
                          try simp only [Act.put, List.getElem_toArray, List.getElem_cons_zero, List.getElem_cons_succ, List.setIfInBounds_toArray, List.set_cons_zero, List.set_cons_succ]
                          refine wpAnyH_ready (rs := [36]) (by kernel_rfl) (by simp) ?_
                          refine AllReadyH.cons (o_at HG 36 rfl) ?_ (AllReadyH.nil)
                          · intro K' hK
                            rw [if_pos (by kernel_rfl)]
                            go_simp
                            refine hK.out _ _ ?_ (fun hS => ?_)
                            · (repeat (first | assumption | (with_reducible apply bel_drew) | (with_reducible apply bel_alloc)))
                            try simp only [Act.put, List.getElem_toArray, List.getElem_cons_zero, List.getElem_cons_succ, List.setIfInBounds_toArray, List.set_cons_zero, List.set_cons_succ]
                            refine wpAnyH_ready (rs := [38]) (by kernel_rfl) (by simp) ?_
                            refine AllReadyH.cons (o_at HG 38 rfl) ?_ (AllReadyH.nil)
                            · intro K' hK
                              refine step_app_bytes (by kernel_rfl) _ _ 24 rfl w.heap.size 5 Try.underlying24 info5 _ [] rfl ?_ _ _ b rfl HC.out.2 ?_ (by simp; omega) ?_ ?_
                              · refine (OB.empty _ _ 5 ?_ _ ?_).drew
                                · have := HB.out.size; simp; omega
                                · simp
                              · focus ((repeat (first | exact HbW.out | (with_reducible apply RB.drew) | (with_reducible apply RB.alloc))); done)
                              · exact hS.size
                              intro v1 w1 ho1 hg1 _
                              rw [List.nil_append] at ho1
                              have HO1 := Lib.hid ho1
                              have hB1 := bel_grown hS hg1 (fun k e => by have := HB.out.size; simp [Value.ownBlock, Act.eval] at e; omega)
                              have HM1 : Hid (RB w1 B m) := HM.out.below hB1
                              clear ho1 hg1
                              refine hK.out _ _ ?_ (fun hS => ?_)
                              · exact hB1
                              try simp only [Act.put, List.getElem_toArray, List.getElem_cons_zero, List.getElem_cons_succ, List.setIfInBounds_toArray, List.set_cons_zero, List.set_cons_succ]
                              refine wpAnyH_ready (rs := [40]) (by kernel_rfl) (by simp) ?_
                              refine AllReadyH.cons (o_at HG 40 rfl) ?_ (AllReadyH.nil)
                              · intro K' hK
                                refine step_app_bytes (by kernel_rfl) _ _ 24 rfl w.heap.size 5 Try.underlying24 info5 _ b rfl HO1.out _ _ m rfl HCM.out.2 HM1.out (by omega) hS.size ?_
                                intro v2 w2 ho2 hg2 _
                                rw [← HBM.out] at ho2
                                have hB2 := bel_grown hS hg2 (fun k e => HO1.out.base_ k e)
                                obtain ⟨A2, c2, hv2, hsv2, hrb2⟩ := ho2.reads
                                subst hv2
                                have HSV2 := Lib.hid hsv2
                                have HRB2 := Lib.hid hrb2
                                clear ho2 hg2 hsv2 hrb2
                                refine hK.out _ _ ?_ (fun hS => ?_)
                                · exact hB2
                                try simp only [Act.put, List.getElem_toArray, List.getElem_cons_zero, List.getElem_cons_succ, List.setIfInBounds_toArray, List.set_cons_zero, List.set_cons_succ]
                                refine wpAnyH_ready (rs := [41]) (by kernel_rfl) (by simp) ?_
                                refine AllReadyH.cons (o_at HG 41 rfl) ?_ (AllReadyH.nil)
                                · intro K' hK
                                  rw [if_pos (by kernel_rfl)]
                                  go_simp
                                  (with_reducible refine (same_len true S2 _ _ _ bm ?_ _ HRB2.out HSV2.out HSB.out).mono ?_)
                                  · first | rfl | exact HBMl.out.symm
                                  rintro e w3 ⟨rfl, hw3⟩
                                  have hB3 := bel_then hS hw3
                                  clear hw3
                                  refine hK.out _ _ ?_ (fun hS => ?_)
                                  · exact hB3
                                  try simp only [Act.put, List.getElem_toArray, List.getElem_cons_zero, List.getElem_cons_succ, List.setIfInBounds_toArray, List.set_cons_zero, List.set_cons_succ]
                                  refine wpAnyH_take (i := 42) (v := ?_) (o_at HG 42 rfl) Gns (by kernel_rfl) (by kernel_rfl) (fun _ _ _ h => h) (Or.inl ⟨(by kernel_rfl), ?_⟩) (by first | trivial | assumption) ?_
                                  rotate_left
                                  · (intro w hSw; (try dsimp only at hSw); go_simp; try with_reducible rfl)
                                  try simp only [Act.put, List.getElem_toArray, List.getElem_cons_zero, List.getElem_cons_succ, List.setIfInBounds_toArray, List.set_cons_zero, List.set_cons_succ]
                                  refine wpAnyH_take (i := 43) (v := ?_) (o_at HG 43 rfl) Gns (by kernel_rfl) (by kernel_rfl) (fun _ _ _ h => h) (Or.inl ⟨(by kernel_rfl), ?_⟩) (by first | trivial | assumption) ?_
                                  rotate_left
                                  · (intro w hSw; (try dsimp only at hSw); go_simp; try with_reducible rfl)
                                  try simp only [Act.put, List.getElem_toArray, List.getElem_cons_zero, List.getElem_cons_succ, List.setIfInBounds_toArray, List.set_cons_zero, List.set_cons_succ]
                                  refine wpAnyH_ready (rs := [44]) (by kernel_rfl) (by simp) ?_
                                  refine AllReadyH.cons (o_at HG 44 rfl) ?_ (AllReadyH.nil)
                                  · intro K' hK
                                    rw [if_pos (by kernel_rfl)]
                                    go_simp
                                    (with_reducible refine (awake_any _).mono ?_)
                                    rintro e w4 ⟨rfl, hw4⟩
                                    have hB4 := bel_then hS hw4
                                    clear hw4
                                    refine hK.out _ _ ?_ (fun hS => ?_)
                                    · exact hB4
                                    try simp only [Act.put, List.getElem_toArray, List.getElem_cons_zero, List.getElem_cons_succ, List.setIfInBounds_toArray, List.set_cons_zero, List.set_cons_succ]
                                    refine wpAnyH_take (i := 45) (v := ?_) (o_at HG 45 rfl) Gns (by kernel_rfl) (by kernel_rfl) (fun _ _ _ h => h) (Or.inl ⟨(by kernel_rfl), ?_⟩) (by first | trivial | assumption) ?_
                                    rotate_left
                                    · (intro w hSw; (try dsimp only at hSw); go_simp; try with_reducible rfl)
                                    try simp only [Act.put, List.getElem_toArray, List.getElem_cons_zero, List.getElem_cons_succ, List.setIfInBounds_toArray, List.set_cons_zero, List.set_cons_succ]
                                    refine wpAnyH_take (i := 46) (v := ?_) (o_at HG 46 rfl) Gns (by kernel_rfl) (by kernel_rfl) (fun _ _ _ h => h) (Or.inl ⟨(by kernel_rfl), ?_⟩) (by first | trivial | assumption) ?_
                                    rotate_left
                                    · (intro w hSw; (try dsimp only at hSw); go_simp; try with_reducible rfl)
                                    try simp only [Act.put, List.getElem_toArray, List.getElem_cons_zero, List.getElem_cons_succ, List.setIfInBounds_toArray, List.set_cons_zero, List.set_cons_succ]
                                    refine wpAnyH_done (by kernel_rfl) ?_ _
                                    go_wp2
                                    go_ret
                                    exact ⟨rfl, hS⟩
end Go.Proofs.Ytigpeghfhfknjaa
