/- What the document fixes of chapter 6 holds: the law's own 'awake' answers true. Conditions: none. -/
import Derived.Test.YtdldclakkplliaaJUse
import Derived.Lib.SmallJoins
namespace Go.Proofs.Ytdldclakkplliaa
set_option linter.unusedVariables false
set_option linter.unusedSimpArgs false
open Go.RowKit

theorem open_nil (w : World) : Calls Try.prog 15 #[.pointer none] w fun e w' => e = .returned (.tuple #[.pointer none, .int .i64 1]) ∧ Below w.heap.size w w' := by
  go_enter Try.func15, Try.ntmps15
  go_wp2_with fail
  refine (sectors_nil w).mono ?_
  rintro e w' ⟨rfl, rfl⟩
  go_wp2
  go_ret2
  exact ⟨rfl, Below.refl _ _⟩
theorem Two.nz {id idj : Nat} (h0 : id ≠ 0) (h1 : idj ≠ 0) : ∀ i, Two id idj i → i ≠ 0 := fun i hi => by
  rcases hi with rfl | rfl <;> assumption
theorem Only.nz {idj : Nat} (h1 : idj ≠ 0) : ∀ i, Only idj i → i ≠ 0 := fun i hi => by
  have : i = idj := hi
  omega
set_option maxRecDepth 100000 in
set_option maxHeartbeats 8000000 in
theorem jawake_any (w : World) : Calls Try.prog 13 #[] w fun e w' => e = .returned (.bool true) ∧ Below w.heap.size w w' := by
  have kc := fun (w : World) (C : Array Value) (n c g : Nat) (hg : g = w.heap.size) => Joins.run_convert_bytes_const_at (P := Try.prog) w 22 5 C n c g hg Try.underlying22 Try.underlying5
  go_enter Try.func13, Try.ntmps13
  go_wp2_with fail
  refine (new_any 1 64 (by omega) w (fun _ => 0) ⟨by omega, by omega⟩).mono ?_
  rintro e w1 ⟨gd, mb, c1, rfl, s1, h1⟩
  have O1 := Lib.hid ((Old.init w).step s1 (by omega))
  have D1 := Lib.hid h1
  clear s1 h1
  go_wp2_with fail
  refine (open_js 1 2 gd mb 0 (newDK 64) 0 0 [] [] 64 w1 c1 D1.out (by omega) (by omega) (by omega) (Calm.new 64 ⟨by omega, by omega⟩) (HInv.new 64 (by omega))).mono ?_
  rintro e w2 ⟨gj, j0, c2, rfl, p2, S2, q1, q2, q3, q4, q5⟩
  have O2 := Lib.hid (O1.out.path p2 (Only.nz (by omega)))
  have J2 := Lib.hid S2
  have HJ2 : Hid (j0.number = 0 ∧ j0.base.b = [] ∧ j0.recs.map (·.b) = [] ∧ j0.endp = 64) := Lib.hid ⟨q2, q3, q4, q5⟩
  clear p2 S2 q1 q2 q3 q4 q5 O1 D1
  go_wp2_with fail
  refine (open_nil w2).mono ?_
  rintro e w3 ⟨rfl, hb3⟩
  have O3 := Lib.hid (O2.out.grow hb3 (fun _ => 0))
  have J3 := Lib.hid (J2.out.grow hb3 (fun _ => 0))
  clear hb3 O2 J2
  have hba := bel_alloc (Below.refl w3.heap.size w3) (.cells #[.int .u8 97] 5 (1, 2))
  have ra := RB.lit w3 5 (1, 2) [97] (by simp) _ rfl #[.int .u8 97] rfl
  have O4 := Lib.hid (O3.out.grow hba (fun _ => 0))
  have J4 := Lib.hid (J3.out.grow hba (fun _ => 0))
  have R4 := Lib.hid (RC.new (col := paint w2 c2 (fun _ => 0)) 0 ra (fun ad e => by cases e; exact Nat.le_refl _))
  clear hba ra O3 J3
  go_wp2_with fail
  refine (append_js 1 2 gd mb gj 0 (newDK 64) j0 (some ⟨w3.heap.size, 0, none⟩) 1 [97] _ _ J4.out (by omega) (by omega) (by omega) R4.out ⟨Nat.le_refl _, fun e => by cases e⟩ (by omega) (by rw [HJ2.out.1]; omega) (by simp)).mono ?_
  rintro e w5 ⟨x, d1, j1, c5, rfl, p5, S5, n5, hx⟩
  obtain ⟨rfl, -, q2, q3, q4, q5⟩ : x = 0 ∧ _ := by
    rcases hx with ⟨-, -, -, h4⟩ | hx
    · exfalso
      rw [HJ2.out.2.2.2] at h4
      revert h4
      decide
    · exact hx
  rw [HJ2.out.1] at q2
  rw [HJ2.out.2.1] at q3
  rw [HJ2.out.2.2.2] at q4
  rw [HJ2.out.2.2.1] at q5
  have O5 := Lib.hid (O4.out.path p5 (Two.nz (by omega) (by omega)))
  have J5 := Lib.hid S5
  have HJ5 : Hid (j1.number = 0 ∧ j1.base.b = [] ∧ j1.recs.map (·.b) = [[97]] ∧ j1.endp = 74 ∧ d1.n = 64) := Lib.hid ⟨q2, q3, q5, q4, n5⟩
  clear p5 S5 n5 hx q2 q3 q4 q5 O4 J4 HJ2 R4
  have hba := bel_alloc (Below.refl w5.heap.size w5) (.cells #[.int .u8 98] 5 (1, 2))
  have ra := RB.lit w5 5 (1, 2) [98] (by simp) _ rfl #[.int .u8 98] rfl
  have O6 := Lib.hid (O5.out.grow hba (fun _ => 0))
  have J6 := Lib.hid (J5.out.grow hba (fun _ => 0))
  have R6 := Lib.hid (RC.new (col := c5) 0 ra (fun ad e => by cases e; exact Nat.le_refl _))
  clear hba ra O5 J5
  go_wp2_with fail
  refine (append_js 1 2 gd mb gj 1000 d1 j1 (some ⟨w5.heap.size, 0, none⟩) 1 [98] _ _ J6.out (by omega) (by omega) (by omega) R6.out ⟨Nat.le_refl _, fun e => by cases e⟩ (by omega) (by rw [HJ5.out.1]; omega) (by simp)).mono ?_
  rintro e w7 ⟨x, d2, j2, c7, rfl, p7, S7, n7, hx⟩
  obtain ⟨rfl, -, q2, q3, q4, q5⟩ : x = 0 ∧ _ := by
    rcases hx with ⟨-, -, -, h4⟩ | hx
    · exfalso
      rw [HJ5.out.2.2.2.1, HJ5.out.2.2.2.2] at h4
      revert h4
      decide
    · exact hx
  rw [HJ5.out.1] at q2
  rw [HJ5.out.2.1] at q3
  rw [HJ5.out.2.2.2.1] at q4
  rw [HJ5.out.2.2.1] at q5
  rw [HJ5.out.2.2.2.2] at n7
  have O7 := Lib.hid (O6.out.path p7 (Two.nz (by omega) (by omega)))
  have J7 := Lib.hid S7
  have HJ7 : Hid (j2.number = 0 ∧ j2.base.b = [] ∧ j2.recs.map (·.b) = [[97], [98]] ∧ j2.endp = 84 ∧ d2.n = 64) := Lib.hid ⟨q2, q3, q5, q4, n7⟩
  clear p7 S7 n7 hx q2 q3 q4 q5 O6 J6 HJ5 R6
  go_wp2_with fail
  refine (crash_js 1 3 gd mb 2000 d2 none 0 [] _ _ _ _ _ w7 c7 J7.out.disk (fun _ _ _ => RI.nil _ _) (by omega) (by omega) J7.out.calm (by omega) J7.out.inv (fun x hx => by simp at hx)).mono ?_
  rintro e w8 ⟨ge, me, de, c8, rfl, s8, h8, k8, i8, n8⟩
  have O8 := Lib.hid (O7.out.step s8 (by omega))
  have J8 := Lib.hid (J7.out.path (J := Only 3) (.step rfl .refl s8) (fun i hi => by have : i = 3 := hi; omega))
  have D8 := Lib.hid h8
  have K8 := Lib.hid k8
  have I8 := Lib.hid i8
  clear s8 h8 k8 i8 n8 O7 J7
  go_wp2_with fail
  refine (open_js 3 4 ge me 2000 de _ _ _ _ _ w8 c8 D8.out (by omega) (by omega) (by omega) K8.out I8.out).mono ?_
  rintro e w9 ⟨gk, jk, c9, rfl, p9, S9, q1, q2, q3, q4, q5⟩
  rw [HJ7.out.2.1] at q3
  rw [HJ7.out.2.2.1] at q4
  have O9 := Lib.hid (O8.out.path p9 (Only.nz (by omega)))
  have J9 := Lib.hid (J8.out.path p9 (fun i hi => by have : i = 4 := hi; omega))
  have S9 := Lib.hid S9
  have HJ9 : Hid (jk.base.b = [] ∧ jk.recs.map (·.b) = [[97], [98]]) := Lib.hid ⟨q3, q4⟩
  clear p9 q1 q2 q3 q4 q5 O8 J8 D8 K8 I8
  have hsh : Calls Try.prog 21 #[.pointer (some ⟨gk, 0, none⟩), .agg #[.slice none 0 0, .slice (some ⟨w9.heap.size + 2, 0, none⟩) 2 2]] (((w9.alloc (.cells #[.int .u8 97] 5 (1, 2))).alloc (.cells #[.int .u8 98] 5 (1, 2))).alloc (.cells #[.slice (some ⟨w9.heap.size, 0, none⟩) 1 1, .slice (some ⟨w9.heap.size + 1, 0, none⟩) 1 1] 22)) fun e w' => e = .returned (.bool true) ∧ Below w9.heap.size w9 w' := by
    have hb1 := bel_alloc (Below.refl w9.heap.size w9) (.cells #[.int .u8 97] 5 (1, 2))
    have r1 := RB.lit w9 5 (1, 2) [97] (by simp) _ rfl #[.int .u8 97] rfl
    obtain ⟨wA, hwA⟩ : ∃ X, X = w9.alloc (.cells #[.int .u8 97] 5 (1, 2)) := ⟨_, rfl⟩
    have hAz : wA.heap.size = w9.heap.size + 1 := by rw [hwA]; simp
    rw [← hwA] at hb1 r1 ⊢
    have hb2 := bel_alloc (Below.refl wA.heap.size wA) (.cells #[.int .u8 98] 5 (1, 2))
    have r2 := RB.lit wA 5 (1, 2) [98] (by simp) _ rfl #[.int .u8 98] rfl
    obtain ⟨wB, hwB⟩ : ∃ X, X = wA.alloc (.cells #[.int .u8 98] 5 (1, 2)) := ⟨_, rfl⟩
    have hBz : wB.heap.size = w9.heap.size + 2 := by rw [hwB]; simp [hAz]
    rw [← hwB] at hb2 r2 ⊢
    have r3 := RL.two (w := wB) 22 (r1.below hb2) (c := 1) ⟨Nat.le_refl _, fun e => by cases e⟩ r2 (c2 := 1) ⟨Nat.le_refl _, fun e => by cases e⟩ (n := wB.heap.size) rfl
    rw [hAz, hBz] at r3
    have hb3 := bel_alloc (bel_then hb1 hb2) (.cells #[.slice (some ⟨w9.heap.size, 0, none⟩) 1 1, .slice (some ⟨w9.heap.size + 1, 0, none⟩) 1 1] 22)
    have hs := shows_js (S9.out.grow hb3 (fun _ => 0)) none (some ⟨w9.heap.size + 2, 0, none⟩) 0 2 [] [[97], [98]] (RB.nil _ _) r3
    refine hs.mono ?_
    rintro e w' ⟨rfl, hb⟩
    exact ⟨by rw [HJ9.out.1, HJ9.out.2]; rfl, bel_then hb3 hb⟩
  have HSH := Lib.hid hsh
  clear hsh
  go_wp2_with fail
  refine HSH.out.mono ?_
  rintro e wD ⟨rfl, hbD⟩
  have OD := Lib.hid (O9.out.grow hbD (fun _ => 0))
  have JD := Lib.hid (J9.out.grow hbD (fun _ => 0))
  clear hbD O9 J9 S9 HSH
  have HRM : Hid (roomN d2.n j2.endp = 1955) := Lib.hid (by rw [HJ7.out.2.2.2.1, HJ7.out.2.2.2.2]; decide)
  go_wp2_with fail
  have hr := room_js JD.out
  rw [HRM.out] at hr
  refine hr.mono ?_
  clear hr
  rintro e wE ⟨rfl, hbE⟩
  have OE := Lib.hid (OD.out.grow hbE (fun _ => 0))
  have JE := Lib.hid (JD.out.grow hbE (fun _ => 0))
  clear hbE OD JD
  go_wp2_with fail
  refine (dead_js JE.out).mono ?_
  rintro e wF ⟨rfl, rfl⟩
  go_wp2
  go_ret
  exact ⟨rfl, OE.out.below⟩
end Go.Proofs.Ytdldclakkplliaa
