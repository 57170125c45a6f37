/- The walk of DiskSafe. Conditions: none. -/
import Derived.Test.YtdldclakkplliaaSafePlain
import Derived.Test.YtdldclakkplliaaTorn
import Derived.Test.YtdldclakkplliaaArr
import Derived.Deep.CutBlock
import Derived.BigQuiet
namespace Go.Proofs.Ytdldclakkplliaa
set_option linter.unusedVariables false
set_option linter.unusedSimpArgs false
open Go.RowKit

theorem bel_drewN {w W : World} (h : Below w.heap.size w W) (n : Nat) : Below w.heap.size w (W.drewN n) := ⟨h.os, h.tape, h.output, h.size, h.block⟩
theorem RI.below_zero {w0 w : World} {col : Nat → Nat} {A : Option Addr} {xs : List Int} (h : RI w0 A xs) (ho : Old w0 w col) : 0 < xs.length → ∀ ad, A = some ad → col ad.block = 0 := by
  intro hp ad e
  obtain ⟨ad', e', hc⟩ := h.at_ 0 hp
  rw [e] at e'
  cases e'
  have := World.block_lt_of_cell? w0 _ hc
  rw [add_block] at this
  exact ho.zero _ this
theorem hsz {a z : Int} {k : Nat} (h1 : a = (k : Int)) (h2 : (k : Int) = z % 32) : a = z % 32 := h1.trans h2
theorem ArrAt.any {w : World} {col : Nat → Nat} {g cg m : Nat} {bs : Nat → List UInt8} (h : ArrAt w col g cg m bs) (j : Nat) (hj : j < 32) : ∃ v, w.cell? ⟨g, j, none⟩ = some v := by
  obtain ⟨cs, h1, h2, h3⟩ := h.row
  exact ⟨cs[j], by rw [cell_of_row _ _ j _ _ _ h1]; exact Array.getElem?_eq_getElem (by omega)⟩
set_option maxRecDepth 100000 in
set_option maxHeartbeats 8000000 in
theorem safe_walk (A B C : Option Addr) (ca cb cc : Nat) (xs ys ps : List Int) (w : World) (hra : RI w A xs) (hrb : RI w B ys) (hrc : RI w C ps) (hla : xs.length ≤ 20) (hlb : ys.length ≤ 20) (hlc : ps.length ≤ 5) (hwa : ∀ x ∈ xs, -9223372036854775808 ≤ x ∧ x ≤ 9223372036854775807) (hwb : ∀ x ∈ ys, -9223372036854775808 ≤ x ∧ x ≤ 9223372036854775807) (hwc : ∀ x ∈ ps, -9223372036854775808 ≤ x ∧ x ≤ 9223372036854775807) :
    Calls Try.prog 5 #[.slice A xs.length ca, .slice B ys.length cb, .slice C ps.length cc] w fun e w' => e = .returned (.bool true) ∧ Below w.heap.size w w' := by
  obtain ⟨la, hxa⟩ : ∃ m, m = xs.length := ⟨_, rfl⟩
  obtain ⟨lb, hxb⟩ : ∃ m, m = ys.length := ⟨_, rfl⟩
  obtain ⟨lc, hxc⟩ : ∃ m, m = ps.length := ⟨_, rfl⟩
  rw [← hxa] at hla ⊢
  rw [← hxb] at hlb ⊢
  rw [← hxc] at hlc ⊢
  have XA := Lib.hid hxa
  have XB := Lib.hid hxb
  have XC := Lib.hid hxc
  have RA := Lib.hid hra
  have RBB := Lib.hid hrb
  have RCC := Lib.hid hrc
  have WA := Lib.hid hwa
  have WB := Lib.hid hwb
  have WC := Lib.hid hwc
  clear hxa hxb hxc hra hrb hrc hwa hwb hwc
  have hz1 : decide (20 < (la : Int)) = false := by simp; omega
  have hz2 : decide (20 < (lb : Int)) = false := by simp; omega
  have hz3 : decide (5 < (lc : Int)) = false := by simp; omega
  go_enter Try.func5, Try.ntmps5
  go_wp2_with fail
  refine (new_any 1 32 (by omega) w (fun _ => 0) ⟨by omega, by omega⟩).mono ?_
  rintro e w1 ⟨gd, mb, c1, rfl, s1, h1⟩
  have O1 := Lib.hid ((Old.init w).step s1 (by omega))
  have D1 := Lib.hid h1
  clear s1 h1
  obtain ⟨Z, hZ⟩ : ∃ Z : Array Value, Z = Array.replicate 32 (.slice none 0 0) := ⟨_, rfl⟩
  have hZs : Z.size = 32 := by rw [hZ]; simp
  have hb1 := bel_alloc (Below.refl w1.heap.size w1) (.cells Z 49)
  have hb2 := bel_alloc (Below.refl (w1.alloc (.cells Z 49)).heap.size (w1.alloc (.cells Z 49))) (.cells Z 49)
  have O2 := Lib.hid ((O1.out.grow hb1 (fun _ => 3)).grow hb2 (fun _ => 4))
  have D2 := Lib.hid ((D1.out.grow hb1 (fun _ => 3)).grow hb2 (fun _ => 4))
  have hs1 : (w1.alloc (.cells Z 49)).heap.size = w1.heap.size + 1 := by show (w1.heap.push _).size = _; exact Array.size_push ..
  have P2 : Hid (ArrAt ((w1.alloc (.cells Z 49)).alloc (.cells Z 49)) (paint (w1.alloc (.cells Z 49)) (paint w1 c1 (fun _ => 3)) (fun _ => 4)) w1.heap.size 3 0 zeroB) := Lib.hid (ArrAt.grow ⟨⟨Z, heap_alloc_new w1 _, hZs, fun j hj => by omega⟩, paint_new (Nat.le_refl _)⟩ hb2 _)
  have Q2 : Hid (ArrAt ((w1.alloc (.cells Z 49)).alloc (.cells Z 49)) (paint (w1.alloc (.cells Z 49)) (paint w1 c1 (fun _ => 3)) (fun _ => 4)) (w1.heap.size + 1) 4 0 zeroB) := Lib.hid ⟨⟨Z, by rw [← hs1]; exact heap_alloc_new _ _, hZs, fun j hj => by omega⟩, paint_new (Nat.le_of_eq hs1)⟩
  rw [hZ] at O2 D2 P2 Q2
  clear hb1 hb2 hs1 hZs hZ O1 D1
  go_wp2
  go_loopw [11] (fun u11 w' => ∃ (i : Nat) (col : Nat → Nat), i ≤ 32 ∧ u11 = .int .i64 i ∧ Hid (Old w w' col) ∧ Hid (DiskAt w' col 1 gd mb (newDK 32)) ∧ Hid (ArrAt w' col w1.heap.size 3 i zeroB) ∧ Hid (ArrAt w' col (w1.heap.size + 1) 4 i zeroB)) (fun u11 _ => 32 - (intOf u11).toNat)
  case atStart =>
    exact ⟨0, _, by omega, rfl, O2, D2, P2, Q2⟩
  case round =>
    clear O2 D2 P2 Q2
    obtain ⟨i, col, hi, rfl, HO, HD, HP, HQ⟩ := hrel
    by_cases hlt : i < 32
    · go_wp2_with (first | (at_make; go_loud (refine wp_make rfl _ _ 22 5 rfl Try.underlying22 info5 _ _ 64 rfl rfl (by omega) ?_); intro W1 ho hb; have HO1 := Lib.hid (HO.out.grow hb (fun _ => 0)); have HD1 := Lib.hid (HD.out.grow hb (fun _ => 0)); have HP1 := Lib.hid (HP.out.grow hb (fun _ => 0)); have HQ1 := Lib.hid (HQ.out.grow hb (fun _ => 0)); obtain ⟨A1, k1, e1, sv1, rb1⟩ := ho.reads; rw [List.length_replicate] at e1 sv1; cases e1; have hr1 := RC.new (col := col) 0 rb1 (fun _ e => by cases e; exact Nat.le_refl _); have HST := Lib.hid (HP1.out.store (m' := i + 1) (by omega) i hlt (fun x hx => by omega) sv1 hr1 (List.length_replicate ..)); have HSV := Lib.hid sv1; have HRC := Lib.hid hr1; have fp := HP1.out.free i; obtain ⟨u0, hu0⟩ := HP1.out.any i hlt; have HQ2 := Lib.hid (HQ1.out.step HST.out.1 (by omega) (by omega)); have fq := HQ2.out.free i; obtain ⟨u2, hu2⟩ := HQ2.out.any i hlt; clear ho hb sv1 rb1 hr1) | fail)
      have HST2 := Lib.hid (HQ2.out.store (m' := i + 1) (by omega) i hlt (fun x hx => by omega) HSV.out (HRC.out.step HST.out.1 (by omega)) (List.length_replicate ..))
      go_roundw
      case rel =>
        refine ⟨i + 1, _, by omega, by go_num, Lib.hid ((HO1.out.step HST.out.1 (by omega)).step HST2.out.1 (by omega)), Lib.hid ((HD1.out.step HST.out.1 (by omega) (by omega)).step HST2.out.1 (by omega) (by omega)), Lib.hid ((HST.out.2.step HST2.out.1 (by omega) (by omega)).same fun j hj => ?_), Lib.hid (HST2.out.2.same fun j hj => ?_)⟩
        · show zeroB j = if j = i then List.replicate 64 0 else zeroB j
          split <;> rfl
        · show zeroB j = if j = i then List.replicate 64 0 else zeroB j
          split <;> rfl
      case measure => simp [intOf]; omega
    · obtain rfl : i = 32 := by omega
      rw [show ((32 : Nat) : Int) = 32 from rfl]
      have HP0 : Hid (ArrAt wr col w1.heap.size 3 32 (putB zeroB (xs.take 0))) := HP
      have HQ0 : Hid (ArrAt wr col (w1.heap.size + 1) 4 32 (putB zeroB (xs.take 0))) := HQ
      clear HP HQ
      go_wp2
      go_loopw [12, 13] (fun u12 u13 w' => ∃ (i : Nat) (d : DK) (col : Nat → Nat), i ≤ la ∧ u12 = .int .i64 i ∧ Hid (Old w w' col) ∧ Hid (DiskAt w' col 1 gd mb d) ∧ Hid (ArrAt w' col w1.heap.size 3 32 (putB zeroB (xs.take i))) ∧ Hid (ArrAt w' col (w1.heap.size + 1) 4 32 (putB zeroB (xs.take i))) ∧ Hid (d.calm ∧ d.n = 32 ∧ d.fits i ∧ d.safe = (fun _ => none) ∧ d.m = 0 ∧ Holds d.cache (xs.take i))) (fun u12 _ _ => la - (intOf u12).toNat)
      case atStart => exact ⟨0, newDK 32, col, by omega, rfl, HO, HD, HP0, HQ0, Lib.hid ⟨⟨rfl, rfl⟩, rfl, newDK_fits 32, rfl, rfl, Holds.nil⟩⟩
      case round =>
        clear HO HD HP0 HQ0
        obtain ⟨i, d, col, hi, rfl, HO, HD, HP, HQ, HK⟩ := hrel
        by_cases hlt : i < la
        · obtain ⟨z, hz⟩ : ∃ z, xs[i]? = some z := ⟨_, List.getElem?_eq_getElem (by rw [← XA.out]; exact hlt)⟩
          have hgz : xs.getD i 0 = z := by rw [List.getD_eq_getElem?_getD, hz]; rfl
          obtain ⟨ad, rfl, c0⟩ := (RA.out.below HO.out.below).at_ i (by rw [← XA.out]; exact hlt)
          rw [hgz] at c0
          have HC : Hid (∀ X, Below w.heap.size w X → X.cell? (ad.add i) = some (.int .i64 z)) := Lib.hid (fun X hX => by
            obtain ⟨ad', e, z0⟩ := (RA.out.below hX).at_ i (by rw [← XA.out]; exact hlt)
            cases e
            rw [hgz] at z0
            exact z0)
          have hzb := WA.out z (List.mem_of_getElem? hz)
          have HZ := Lib.hid hz
          obtain ⟨k, hk⟩ : ∃ k : Nat, (k : Int) = z % 32 := ⟨(z % 32).toNat, by omega⟩
          have hk32 : k < 32 := by omega
          have HKK := Lib.hid hk
          have HRD := Lib.hid (show ∀ X, Calls Try.prog 27 #[.int .i64 z, .int .i64 32] X fun e w' => e = .returned (.int .i64 (k : Int)) ∧ X = w' from fun X => by rw [hk]; exact round_any z 32 X (by omega) (by omega) (by omega) (by omega))
          have hbl := blk_length 64 z
          obtain ⟨B, hB⟩ : ∃ B, B = blk 64 z := ⟨_, rfl⟩
          have HBK : Hid (∀ X, Calls Try.prog 29 #[.int .i64 z] X fun e w' => ∃ A c, e = .returned (.slice A 64 c) ∧ SV A 64 c ∧ RB w' A B ∧ (∀ ad, A = some ad → X.heap.size ≤ ad.block) ∧ Below X.heap.size X w') := Lib.hid (fun X => by rw [hB]; exact blkS_any z X)
          rw [← hB] at hbl
          have HBL := Lib.hid hbl
          have HBE := Lib.hid hB
          clear hgz hz hk hbl hB hzb
          go_wp2_with fail
          refine (HRD.out _).mono ?_
          rintro e w' ⟨rfl, rfl⟩
          go_wp2_with fail
          refine (HBK.out _).mono ?_
          rintro e w2 ⟨A2, k2, rfl, sv2, rb2, fr2, hb2⟩
          have O2 := Lib.hid (HO.out.grow hb2 (fun _ => 0))
          have D2 := Lib.hid (HD.out.grow hb2 (fun _ => 0))
          have P2 := Lib.hid (HP.out.grow hb2 (fun _ => 0))
          have Q2 := Lib.hid (HQ.out.grow hb2 (fun _ => 0))
          have R2 := Lib.hid (RC.new (col := col) 0 rb2 fr2)
          have SV2 := Lib.hid sv2
          clear c0 sv2 rb2 fr2 hb2 HO HD HP HQ
          go_wp2_with fail
          refine (write_calm 1 gd mb d i k A2 k2 0 B w2 _ D2.out HK.out.1 HK.out.2.2.1 (by omega) R2.out (by omega) SV2.out HBL.out ⟨by omega, by rw [HK.out.2.1]; omega⟩).mono ?_
          rintro e w3 ⟨rfl, c3, s, s3, hsa, hsb, h3⟩
          have O3 := Lib.hid (O2.out.step s3 (by omega))
          have D3 := Lib.hid h3
          have P3 := Lib.hid (P2.out.step s3 (by omega) (by omega))
          have Q3 := Lib.hid (Q2.out.step s3 (by omega) (by omega))
          have HSA := Lib.hid hsa
          have HSB := Lib.hid hsb
          have x3 := HC.out w3 O3.out.below
          clear s3 h3 hsa hsb O2 D2 P2 Q2 R2 SV2
          go_wp2_with fail
          refine (HBK.out _).mono ?_
          rintro e w4 ⟨A4, k4, rfl, sv4, rb4, fr4, hb4⟩
          have O4 := Lib.hid (O3.out.grow hb4 (fun _ => 0))
          have D4 := Lib.hid (D3.out.grow hb4 (fun _ => 0))
          have P4 := Lib.hid (P3.out.grow hb4 (fun _ => 0))
          have Q4 := Lib.hid (Q3.out.grow hb4 (fun _ => 0))
          have R4 := Lib.hid (RC.new (col := c3) 0 rb4 fr4)
          have SV4 := Lib.hid sv4
          have HS5 := Lib.hid (P4.out.store (m' := 32) (by omega) k hk32 (fun x hx => .inl hx) sv4 R4.out HBL.out)
          have Q5 := Lib.hid (Q4.out.step HS5.out.1 (by omega) (by omega))
          have HS6 := Lib.hid (Q5.out.store (m' := 32) (by omega) k hk32 (fun x hx => .inl hx) sv4 (R4.out.step HS5.out.1 (by omega)) HBL.out)
          have fp := P4.out.free k
          obtain ⟨u4, hu4⟩ := P4.out.any k hk32
          have fq := Q5.out.free k
          obtain ⟨u5, hu5⟩ := Q5.out.any k hk32
          clear x3 sv4 rb4 fr4 hb4 O3 D3 P3 Q3
          go_wp2
          go_roundw
          case rel =>
            obtain ⟨p1, p2, ⟨q1, q2, q3, q4, q5⟩, p4, p5, p6⟩ := HK.out
            refine ⟨i + 1, _, _, by omega, by go_num, Lib.hid ((O4.out.step HS5.out.1 (by omega)).step HS6.out.1 (by omega)), Lib.hid ((D4.out.step HS5.out.1 (by omega) (by omega)).step HS6.out.1 (by omega) (by omega)), Lib.hid ((HS5.out.2.step HS6.out.1 (by omega) (by omega)).same fun j hj => ?_), Lib.hid (HS6.out.2.same fun j hj => ?_), Lib.hid ⟨p1, p2, ⟨by show -((i + 1 : Nat) : Int) ≤ d.left - 1; omega, by show d.left - 1 ≤ _; omega, by show 0 ≤ d.ops + 1; omega, by show d.ops + 1 ≤ ((i + 1 : Nat) : Int); omega, by simp; omega⟩, p4, p5, p6.add HZ.out (hsz HSA.out HKK.out) (HSB.out.trans HBE.out)⟩⟩
            · rw [putB_take _ _ _ _ HZ.out, HBE.out]; unfold setB; rw [← HKK.out]; by_cases hj : j = k
              · subst hj; rw [if_pos rfl, if_pos rfl]
              · rw [if_neg hj, if_neg (by omega)]
            · rw [putB_take _ _ _ _ HZ.out, HBE.out]; unfold setB; rw [← HKK.out]; by_cases hj : j = k
              · subst hj; rw [if_pos rfl, if_pos rfl]
              · rw [if_neg hj, if_neg (by omega)]
          case measure => simp [intOf]; omega
        · obtain rfl : i = la := by omega
          have hte : xs.take i = xs := by rw [XA.out]; exact List.take_length
          rw [hte] at HP HQ HK
          have hfl := flush_calm 1 gd mb d i wr col HD.out HK.out.1 HK.out.2.2.1 (by omega) (by have := HK.out.2.2.1.2.2.2.2; have := HK.out.2.2.2.2.1; omega)
          have HFL := Lib.hid hfl
          clear hte hfl
          go_wp2_with fail
          refine HFL.out.mono ?_
          rintro e w2 ⟨rfl, s2, h2⟩
          have O2 := Lib.hid (HO.out.step s2 (by omega))
          have P2 := Lib.hid (HP.out.step s2 (by omega) (by omega))
          have Q2 := Lib.hid (HQ.out.step s2 (by omega) (by omega))
          obtain ⟨d2, hd2⟩ : ∃ e, e = ({ d with ops := d.ops + 1, left := d.left - 1, safe := putAll d.safe d.cache, cache := [], m := d.m + d.cache.length } : DK) := ⟨_, rfl⟩
          rw [← hd2] at h2
          have D2 := Lib.hid h2
          obtain ⟨F, hF⟩ : ∃ F, F = putB zeroB xs := ⟨_, rfl⟩
          have HQ2 : Hid (d2.calm ∧ d2.n = 32 ∧ d2.fits (i + 1) ∧ d2.cache = [] ∧ d2.m ≤ 20 ∧ (fun j : Nat => secB (d2.safe j)) = F) := Lib.hid (by
            obtain ⟨p1, p2, ⟨q1, q2, q3, q4, q5⟩, p4, p5, p6⟩ := HK.out
            rw [hd2]
            refine ⟨p1, p2, ⟨by show -((i + 1 : Nat) : Int) ≤ d.left - 1; omega, by show d.left - 1 ≤ _; omega, by show 0 ≤ d.ops + 1; omega, by show d.ops + 1 ≤ ((i + 1 : Nat) : Int); omega, by simp⟩, rfl, by show d.m + d.cache.length ≤ 20; omega, ?_⟩
            funext j
            show secB (putAll d.safe d.cache j) = F j
            rw [holds_put p6, p4, hF]
            rfl)
          have HFL64 := Lib.hid (show ∀ j, (F j).length = 64 from fun j => by rw [hF]; exact putB_len _ (fun _ => List.length_replicate ..) j)
          rw [← hF] at P2 Q2
          obtain ⟨Z, hZ⟩ : ∃ Z : Array Value, Z = Array.replicate 32 (.int .i64 0) := ⟨_, rfl⟩
          have hZs : Z.size = 32 := by rw [hZ]; simp
          have hb3 := bel_alloc (Below.refl w2.heap.size w2) (.cells Z 54)
          have O3 := Lib.hid (O2.out.grow hb3 (fun _ => 5))
          have D3 := Lib.hid (D2.out.grow hb3 (fun _ => 5))
          have P3 := Lib.hid (P2.out.grow hb3 (fun _ => 5))
          have Q3 : Hid (ArrAt (w2.alloc (.cells Z 54)) (paint w2 col (fun _ => 5)) (w1.heap.size + 1) 4 32 (putB F (ys.take 0))) := Lib.hid (Q2.out.grow hb3 (fun _ => 5))
          have C3 : Hid (CntAt (w2.alloc (.cells Z 54)) (paint w2 col (fun _ => 5)) w2.heap.size 5 (cntB (ys.take 0))) := Lib.hid ⟨⟨Z, heap_alloc_new w2 _, hZs, fun j hj => by rw [hZ, Array.getElem?_replicate, if_pos hj]; rfl⟩, paint_new (Nat.le_refl _)⟩
          obtain ⟨S1, hS1⟩ : ∃ S, S = d2.safe := ⟨_, rfl⟩
          have HK3 : Hid (d2.calm ∧ d2.n = 32 ∧ d2.fits (i + 1 + 0) ∧ d2.safe = S1 ∧ d2.m ≤ 20 ∧ Holds d2.cache (ys.take 0)) := Lib.hid (by
            obtain ⟨p1, p2, p3, p4, p5, p6⟩ := HQ2.out
            exact ⟨p1, p2, p3, hS1.symm, p5, by rw [p4]; exact Holds.nil⟩)
          have HS1 : Hid ((fun j : Nat => secB (S1 j)) = F) := Lib.hid (by rw [hS1]; exact HQ2.out.2.2.2.2.2)
          rw [hZ] at O3 D3 P3 Q3 C3
          clear s2 h2 hd2 hF hZs hb3 hZ hS1 O2 D2 P2 Q2 HQ2 HO HD HP HQ HK HFL
          go_wp2
          go_loopw [15, 16] (fun u15 u16 w' => ∃ (t : Nat) (d : DK) (col : Nat → Nat), t ≤ lb ∧ u15 = .int .i64 t ∧ Hid (Old w w' col) ∧ Hid (DiskAt w' col 1 gd mb d) ∧ Hid (ArrAt w' col w1.heap.size 3 32 F) ∧ Hid (ArrAt w' col (w1.heap.size + 1) 4 32 (putB F (ys.take t))) ∧ Hid (CntAt w' col w2.heap.size 5 (cntB (ys.take t))) ∧ Hid (d.calm ∧ d.n = 32 ∧ d.fits (i + 1 + t) ∧ d.safe = S1 ∧ d.m ≤ 20 ∧ Holds d.cache (ys.take t))) (fun u15 _ _ => lb - (intOf u15).toNat)
          case atStart => exact ⟨0, d2, _, by omega, rfl, O3, D3, P3, Q3, C3, HK3⟩
          case round =>
            clear O3 D3 P3 Q3 C3 HK3
            obtain ⟨t, d, col, ht, rfl, HO, HD, HP, HQ, HN, HK⟩ := hrel
            by_cases hlt : t < lb
            · obtain ⟨z, hz⟩ : ∃ z, ys[t]? = some z := ⟨_, List.getElem?_eq_getElem (by rw [← XB.out]; exact hlt)⟩
              have hgz : ys.getD t 0 = z := by rw [List.getD_eq_getElem?_getD, hz]; rfl
              obtain ⟨ad, rfl, c0⟩ := (RBB.out.below HO.out.below).at_ t (by rw [← XB.out]; exact hlt)
              rw [hgz] at c0
              have HC : Hid (∀ X, Below w.heap.size w X → X.cell? (ad.add t) = some (.int .i64 z)) := Lib.hid (fun X hX => by
                obtain ⟨ad', e, z0⟩ := (RBB.out.below hX).at_ t (by rw [← XB.out]; exact hlt)
                cases e
                rw [hgz] at z0
                exact z0)
              have hzb := WB.out z (List.mem_of_getElem? hz)
              have HZ := Lib.hid hz
              obtain ⟨k, hk⟩ : ∃ k : Nat, (k : Int) = z % 32 := ⟨(z % 32).toNat, by omega⟩
              have hk32 : k < 32 := by omega
              have HKK := Lib.hid hk
              have HRD := Lib.hid (show ∀ X, Calls Try.prog 27 #[.int .i64 z, .int .i64 32] X fun e w' => e = .returned (.int .i64 (k : Int)) ∧ X = w' from fun X => by rw [hk]; exact round_any z 32 X (by omega) (by omega) (by omega) (by omega))
              have hbl := blk_length 64 z
              obtain ⟨B, hB⟩ : ∃ B, B = blk 64 z := ⟨_, rfl⟩
              have HBK : Hid (∀ X, Calls Try.prog 29 #[.int .i64 z] X fun e w' => ∃ A c, e = .returned (.slice A 64 c) ∧ SV A 64 c ∧ RB w' A B ∧ (∀ ad, A = some ad → X.heap.size ≤ ad.block) ∧ Below X.heap.size X w') := Lib.hid (fun X => by rw [hB]; exact blkS_any z X)
              rw [← hB] at hbl
              have HBL := Lib.hid hbl
              have HBE := Lib.hid hB
              obtain ⟨cn, hcn⟩ : ∃ c, c = cntB (ys.take t) k := ⟨_, rfl⟩
              have hcn20 : cn ≤ 20 := by
                have h1 : cntB (ys.take t) k ≤ (ys.take t).length := List.countP_le_length ..
                rw [List.length_take] at h1
                omega
              have HCN := Lib.hid hcn
              clear hgz hz hk hbl hB hzb hcn
              go_wp2_with fail
              refine (HRD.out _).mono ?_
              rintro e w' ⟨rfl, rfl⟩
              go_wp2_with fail
              refine (HBK.out _).mono ?_
              rintro e W2 ⟨A2, k2, rfl, sv2, rb2, fr2, hb2⟩
              have O2 := Lib.hid (HO.out.grow hb2 (fun _ => 0))
              have D2 := Lib.hid (HD.out.grow hb2 (fun _ => 0))
              have P2 := Lib.hid (HP.out.grow hb2 (fun _ => 0))
              have Q2 := Lib.hid (HQ.out.grow hb2 (fun _ => 0))
              have N2 := Lib.hid (HN.out.grow hb2 (fun _ => 0))
              have R2 := Lib.hid (RC.new (col := col) 0 rb2 fr2)
              have SV2 := Lib.hid sv2
              clear c0 sv2 rb2 fr2 hb2 HO HD HP HQ HN
              go_wp2_with fail
              refine (write_calm 1 gd mb d (i + 1 + t) k A2 k2 0 B W2 _ D2.out HK.out.1 HK.out.2.2.1 (by omega) R2.out (by omega) SV2.out HBL.out ⟨by omega, by rw [HK.out.2.1]; omega⟩).mono ?_
              rintro e W3 ⟨rfl, c3, s, s3, hsa, hsb, h3⟩
              have O3 := Lib.hid (O2.out.step s3 (by omega))
              have D3 := Lib.hid h3
              have P3 := Lib.hid (P2.out.step s3 (by omega) (by omega))
              have Q3 := Lib.hid (Q2.out.step s3 (by omega) (by omega))
              have N3 := Lib.hid (N2.out.step s3 (by omega))
              have HSA := Lib.hid hsa
              have HSB := Lib.hid hsb
              have x3 := HC.out W3 O3.out.below
              clear s3 h3 hsa hsb O2 D2 P2 Q2 N2 R2 SV2
              go_wp2_with fail
              refine (HBK.out _).mono ?_
              rintro e W4 ⟨A4, k4, rfl, sv4, rb4, fr4, hb4⟩
              have O4 := Lib.hid (O3.out.grow hb4 (fun _ => 0))
              have D4 := Lib.hid (D3.out.grow hb4 (fun _ => 0))
              have P4 := Lib.hid (P3.out.grow hb4 (fun _ => 0))
              have Q4 := Lib.hid (Q3.out.grow hb4 (fun _ => 0))
              have N4 := Lib.hid (N3.out.grow hb4 (fun _ => 0))
              have R4 := Lib.hid (RC.new (col := c3) 0 rb4 fr4)
              have HS5 := Lib.hid (Q4.out.store (m' := 32) (by omega) k hk32 (fun x hx => .inl hx) sv4 R4.out HBL.out)
              have N5 := Lib.hid (N4.out.step HS5.out.1 (by omega))
              have hs6 := N5.out.store k hk32 (cn + 1)
              rw [show ((cn + 1 : Nat) : Int) = (cn : Int) + 1 by omega] at hs6
              have HS6 := Lib.hid hs6
              have fp := Q4.out.free k
              obtain ⟨u4, hu4⟩ := Q4.out.any k hk32
              have fq := N5.out.free k
              have hu5 := N5.out.load k hk32
              rw [← HCN.out] at hu5
              clear x3 sv4 rb4 fr4 hb4 hs6 O3 D3 P3 Q3 N3
              go_wp2
              go_roundw
              case rel =>
                obtain ⟨p1, p2, ⟨q1, q2, q3, q4, q5⟩, p4, p5, p6⟩ := HK.out
                refine ⟨t + 1, _, _, by omega, by go_num, Lib.hid ((O4.out.step HS5.out.1 (by omega)).step HS6.out.1 (by omega)), Lib.hid ((D4.out.step HS5.out.1 (by omega) (by omega)).step HS6.out.1 (by omega) (by omega)), Lib.hid ((P4.out.step HS5.out.1 (by omega) (by omega)).step HS6.out.1 (by omega) (by omega)), Lib.hid ((HS5.out.2.step HS6.out.1 (by omega) (by omega)).same fun j hj => ?_), Lib.hid (HS6.out.2.same fun j hj => ?_), Lib.hid ⟨p1, p2, ⟨by show -((i + 1 + (t + 1) : Nat) : Int) ≤ d.left - 1; omega, by show d.left - 1 ≤ _; omega, by show 0 ≤ d.ops + 1; omega, by show d.ops + 1 ≤ ((i + 1 + (t + 1) : Nat) : Int); omega, by simp; omega⟩, p4, p5, p6.add HZ.out (hsz HSA.out HKK.out) (HSB.out.trans HBE.out)⟩⟩
                · rw [putB_take _ _ _ _ HZ.out, HBE.out]; unfold setB; rw [← HKK.out]; by_cases hj : j = k
                  · subst hj; rw [if_pos rfl, if_pos rfl]
                  · rw [if_neg hj, if_neg (by omega)]
                · rw [cntB_take _ _ _ HZ.out, ← HKK.out]; by_cases hj : j = k
                  · subst hj; rw [if_pos rfl, if_pos rfl, HCN.out]
                  · rw [if_neg hj, if_neg (by omega), Nat.add_zero]
              case measure => simp [intOf]; omega
            · obtain rfl : t = lb := by omega
              have hte : ys.take t = ys := by rw [XB.out]; exact List.take_length
              rw [hte] at HQ HN HK
              obtain ⟨v6, V6⟩ := HD.out
              have hcl6 : d.cache.length ≤ 50 := by have := HK.out.2.2.1.2.2.2.2; omega
              have hm6 : d.m ≤ 50 := by have := HK.out.2.2.2.2.1; omega
              have hri := RCC.out.below HO.out.below
              have hzz := RI.below_zero RCC.out HO.out
              have hcr := crash_walk 1 2 gd mb v6 d C cc ps wr col V6 (fun w' col' s => hri.step hzz s (by omega)) (by omega) (by omega) (by omega) (by omega) WC.out
              rw [← XC.out] at hcr
              have HCR := Lib.hid hcr
              clear hcr V6 hcl6 hm6 hri hzz hte
              go_wp2_with fail
              refine HCR.out.mono ?_
              rintro e w8 ⟨gc, mc, fc, c8, rfl, s8, h8, hf8⟩
              have O8 := Lib.hid (HO.out.step s8 (by omega))
              have P8 := Lib.hid (HP.out.step s8 (by omega) (by omega))
              have Q8 := Lib.hid (HQ.out.step s8 (by omega) (by omega))
              have N8 := Lib.hid (HN.out.step s8 (by omega))
              obtain ⟨dC, hdC⟩ : ∃ e, e = (⟨d.n, fc, [], false, false, 0, 0, d.m + (liveK (pickK ps 0) d.cache d.cache.length).length⟩ : DK) := ⟨_, rfl⟩
              rw [← hdC] at h8
              have D8 := Lib.hid h8
              obtain ⟨N, hN⟩ : ∃ N, N = putB F ys := ⟨_, rfl⟩
              rw [← hN] at Q8
              have HN64 := Lib.hid (show ∀ j, (N j).length = 64 from fun j => by rw [hN]; exact putB_len _ HFL64.out j)
              have HC8 : Hid (dC.n = 32 ∧ dC.cache = [] ∧ ∀ k : Nat, readB dC k = secB (fc k)) := Lib.hid (by
                rw [hdC]
                refine ⟨HK.out.2.1, rfl, fun k => ?_⟩
                unfold readB readS
                rw [show lastW [] (k : Int) = none from rfl]
                rfl)
              have HM : Hid (∀ k : Nat, cntB ys k ≤ 1 → ∃ T, T ≤ 64 ∧ secB (fc k) = (N k).take T ++ (F k).drop T) := Lib.hid (fun k hk => by
                obtain ⟨p1, p2, p3, p4, p5, p6⟩ := HK.out
                have hFk : ∀ j : Nat, secB (d.safe j) = F j := fun j => by rw [p4]; exact congrFun HS1.out j
                obtain ⟨T, hT, e⟩ := safe_mix (tornK (pickK ps 1) (liveK (pickK ps 0) d.cache d.cache.length).length) (pickK ps 0) (pickK ps 2 % 65).toNat (by omega) d.safe d.cache ys p6 k (by rw [hFk]; exact HFL64.out k) hk
                refine ⟨T, hT, ?_⟩
                rw [hf8 k, e, hFk, hN, show (fun j : Nat => secB (d.safe j)) = F from funext hFk])
              clear s8 h8 hf8 hdC hN HO HP HQ HN HD HCR HK HS1
              go_wp2
              go_loopw [18, 19, 20, 21] (fun u18 u19 u20 u21 w' => ∃ k : Nat, k ≤ 32 ∧ u18 = .int .i64 k ∧ Hid (Below w8.heap.size w8 w')) (fun u18 _ _ _ _ => 32 - (intOf u18).toNat)
              case atStart => exact ⟨0, by omega, rfl, Lib.hid (Below.refl _ _)⟩
              case round =>
                obtain ⟨k, hk, rfl, HB⟩ := hrel
                by_cases hlt : k < 32
                · have D9 := Lib.hid (D8.out.grow HB.out (fun _ => 0))
                  have P9 := Lib.hid (P8.out.grow HB.out (fun _ => 0))
                  have Q9 := Lib.hid (Q8.out.grow HB.out (fun _ => 0))
                  have N9 := Lib.hid (N8.out.grow HB.out (fun _ => 0))
                  obtain ⟨X, hX⟩ : ∃ X, X = secB (fc k) := ⟨_, rfl⟩
                  have HX := Lib.hid hX
                  go_wp2_with fail
                  refine (read_use 2 gc mc dC k wr _ D9.out ⟨by omega, by rw [HC8.out.1]; omega⟩ (by rw [HC8.out.2.1]; simp) X ((HC8.out.2.2 k).trans hX.symm)).mono ?_
                  rintro e w2 ⟨A2, k2, rfl, sv2, rb2, hl2, hb2⟩
                  have P10 := Lib.hid (P9.out.grow hb2 (fun _ => 0))
                  have Q10 := Lib.hid (Q9.out.grow hb2 (fun _ => 0))
                  have N10 := Lib.hid (N9.out.grow hb2 (fun _ => 0))
                  have R10 := Lib.hid rb2
                  have HXL := Lib.hid hl2
                  have HB10 := Lib.hid (bel_then HB.out hb2)
                  have SV10 := Lib.hid sv2
                  obtain ⟨cn, hcn⟩ : ∃ c, c = cntB ys k := ⟨_, rfl⟩
                  have hcl := N10.out.load k hlt
                  rw [← hcn] at hcl
                  have HCN := Lib.hid hcn
                  clear hX sv2 rb2 hl2 hb2 D9 P9 Q9 N9 hcn
                  by_cases h1 : 1 < cn
                  · go_wp2
                    go_roundw
                    case rel => exact ⟨k + 1, by omega, by go_num, HB10⟩
                    case measure => simp [intOf]; omega
                  · go_wp2
                    go_loopw [21] (fun u21 w' => ∃ j : Nat, j ≤ 64 ∧ u21 = .int .i64 j ∧ Hid (Below w2.heap.size w2 w') ∧ Hid (∀ i, i < j → X.getD i 0 = (N k).getD i 0)) (fun u21 _ => 64 - (intOf u21).toNat)
                    case atStart => exact ⟨0, by omega, rfl, Lib.hid (Below.refl _ _), Lib.hid (fun i hi => by omega)⟩
                    case round =>
                      obtain ⟨j, hj, rfl, HBJ, HE⟩ := hrel
                      have Q11 := Lib.hid (Q10.out.grow HBJ.out (fun _ => 0))
                      have R11 := Lib.hid (R10.out.below HBJ.out)
                      obtain ⟨AN, kN, hcN, svN, rcN, hlN⟩ := Q11.out.load k hlt
                      have hk64 := SV10.out.1
                      have hkN64 := svN.1
                      go_upto_if 165 with fail
                      go_cut [165] (fun s165 wx => ∃ bb : Bool, s165 = .bool bb ∧ Hid (bb = true ↔ j < 64 ∧ X.getD j 0 = (N k).getD j 0) ∧ Hid (Below w2.heap.size w2 wx))
                      case first =>
                        by_cases hj64 : j < 64
                        · obtain ⟨ad, rfl, c0⟩ := R11.out.at_ j (by rw [HXL.out]; exact hj64)
                          obtain ⟨adN, rfl, c1⟩ := rcN.read.at_ j (by rw [HN64.out k]; exact hj64)
                          have hdj : decide ((j : Int) < 64) = true := by simp; omega
                          obtain ⟨xa, hxa⟩ : ∃ x, x = (X.getD j 0).toNat := ⟨_, rfl⟩
                          obtain ⟨xb, hxb⟩ : ∃ x, x = ((N k).getD j 0).toNat := ⟨_, rfl⟩
                          rw [← hxa] at c0
                          rw [← hxb] at c1
                          have HXA := Lib.hid hxa
                          have HXB := Lib.hid hxb
                          have b1 : (j : Int) < 64 := by omega
                          have b2 : (k : Int) < 32 := by omega
                          clear hxa hxb
                          by_cases he : xa = xb
                          · obtain rfl := he
                            go_quiet (fail)
                            go_wp2
                            go_meet
                            exact ⟨true, rfl, Lib.hid ⟨fun _ => ⟨hj64, UInt8.toNat_inj.1 (HXA.out.symm.trans HXB.out)⟩, fun _ => rfl⟩, Lib.hid (bel_drewN HBJ.out _)⟩
                          · have hne : ((xa : Int) == (xb : Int)) = false := by simp; omega
                            go_quiet (fail)
                            go_wp2
                            go_meet
                            exact ⟨false, rfl, Lib.hid ⟨fun h => (by cases h), fun h => absurd (by rw [HXA.out, HXB.out, h.2]) he⟩, Lib.hid (bel_drewN HBJ.out _)⟩
                        · have hdj : decide ((j : Int) < 64) = false := by simp; omega
                          go_quiet (fail)
                          go_wp2
                          go_meet
                          exact ⟨false, rfl, Lib.hid ⟨fun h => (by cases h), fun h => absurd h.1 hj64⟩, Lib.hid (bel_drewN HBJ.out _)⟩
                      case rest =>
                        obtain ⟨bb, rfl, HBB, HBC⟩ := hcut
                        cases bb with
                        | true =>
                          go_wp2
                          go_roundw
                          case rel =>
                            refine ⟨j + 1, by have := (HBB.out.1 rfl).1; omega, by go_num, HBC, Lib.hid fun i hi => ?_⟩
                            by_cases hij : i = j
                            · rw [hij]; exact (HBB.out.1 rfl).2
                            · exact HE.out i (by omega)
                          case measure => have := (HBB.out.1 rfl).1; simp [intOf]; omega
                        | false =>
                          have P11 := Lib.hid (P10.out.grow HBC.out (fun _ => 0))
                          have R12 := Lib.hid (R10.out.below HBC.out)
                          obtain ⟨AO, kO, hcO, svO, rcO, hlO⟩ := P11.out.load k hlt
                          obtain ⟨T, hT, hmx⟩ := HM.out k (by rw [← HCN.out]; omega)
                          have hend : j = 64 ∨ X.getD j 0 ≠ (N k).getD j 0 := by
                            by_cases h64 : j < 64
                            · exact .inr fun e => by cases HBB.out.2 ⟨h64, e⟩
                            · exact .inl (by omega)
                          have htail := mix_tail (HN64.out k) (HFL64.out k) hT (HX.out.trans hmx) hj hend
                          obtain ⟨L, hL⟩ : ∃ L, L = (F k).drop j := ⟨_, rfl⟩
                          have hLl : L.length = 64 - j := by rw [hL, List.length_drop, hlO]
                          have hcut : ∀ {A : Option Addr} {c : Nat} {b : List UInt8} (ad : Addr), A = some ad → 64 ≤ c → RB wc A b → b.length = 64 → b.drop j = L → ∃ a, (if c = j then some ad else some (ad.add j)) = some a ∧ ∀ n, (convert 22 9 (.slice (some a) (64 - j) (c - j))).run Try.prog (wc.drewN n) = .ok (.string ⟨L.toArray⟩) (wc.drewN n) := by
                            intro A c b ad e hc hrb hbl hbL
                            obtain ⟨a, ha⟩ : ∃ a, (if c = j then some ad else some (ad.add j)) = some a := by split <;> exact ⟨_, rfl⟩
                            refine ⟨a, ha, fun n => ?_⟩
                            have h1 := hrb.cut (A' := some a) j (64 - j) (by rw [hbl]; omega) (fun hp ad' e' => by
                              rw [e] at e'
                              cases e'
                              rw [← ha, if_neg (by omega)])
                            rw [hbL, List.take_of_length_le (by rw [hLl]; omega)] at h1
                            exact conv_str (n := 64 - j) (c := c - j) hLl.symm (h1.below (bel_drewN (Below.refl _ _) n))
                          obtain ⟨ad2, rfl⟩ : ∃ ad, A2 = some ad := by
                            cases A2 with
                            | none => have h1 := SV10.out.2 rfl; omega
                            | some ad => exact ⟨ad, rfl⟩
                          obtain ⟨ad3, rfl⟩ : ∃ ad, AO = some ad := by
                            cases AO with
                            | none => have h1 := svO.2 rfl; have h2 := svO.1; omega
                            | some ad => exact ⟨ad, rfl⟩
                          have hkO := svO.1
                          obtain ⟨a1, hA1, hq1⟩ := hcut ad2 rfl hk64 R12.out HXL.out (htail.trans hL.symm)
                          obtain ⟨a3, hA3, hq3⟩ := hcut ad3 rfl hkO rcO.read hlO hL.symm
                          have b1 : (j : Int) ≤ 64 := by omega
                          have b2 : (k : Int) < 32 := by omega
                          have b3 : j ≤ k2 := by omega
                          have b4 : j ≤ kO := by omega
                          have b5 : (j : Int) ≤ (k2 : Int) := by omega
                          have b6 : (j : Int) ≤ (kO : Int) := by omega
                          have HBD := Lib.hid (bel_then HB10.out HBC.out)
                          clear hcut hL hmx htail hend hLl hcN hcl
                          go_upto_region 44 with fail
                          go_quiet (fail)
                          go_wp2
                          go_roundw
                          case rel => exact ⟨k + 1, by omega, by go_num, Lib.hid (bel_drewN HBD.out _)⟩
                          case measure => simp [intOf]; omega
                · obtain rfl : k = 32 := by omega
                  have O9 := Lib.hid (O8.out.grow HB.out (fun _ => 0))
                  go_wp2_with fail
                  refine (awake_any wr).mono ?_
                  rintro e w11 ⟨rfl, hb⟩
                  have O10 := Lib.hid (O9.out.grow hb (fun _ => 0))
                  clear hb
                  go_wp2
                  go_ret
                  exact ⟨rfl, O10.out.below⟩
set_option maxRecDepth 100000 in
theorem safe_main (A B C : Option Addr) (ca cb cc : Nat) (xs ys ps : List Int) (w : World) (hra : RI w A xs) (hrb : RI w B ys) (hrc : RI w C ps) (hwa : ∀ x ∈ xs, -9223372036854775808 ≤ x ∧ x ≤ 9223372036854775807) (hwb : ∀ x ∈ ys, -9223372036854775808 ≤ x ∧ x ≤ 9223372036854775807) (hwc : ∀ x ∈ ps, -9223372036854775808 ≤ x ∧ x ≤ 9223372036854775807) :
    Calls Try.prog 5 #[.slice A xs.length ca, .slice B ys.length cb, .slice C ps.length cc] w fun e w' => e = .returned (.bool true) ∧ Below w.heap.size w w' := by
  by_cases h : xs.length ≤ 20 ∧ ys.length ≤ 20 ∧ ps.length ≤ 5
  · exact safe_walk A B C ca cb cc xs ys ps w hra hrb hrc h.1 h.2.1 h.2.2 hwa hwb hwc
  · obtain ⟨la, hxa⟩ : ∃ m, m = xs.length := ⟨_, rfl⟩
    obtain ⟨lb, hxb⟩ : ∃ m, m = ys.length := ⟨_, rfl⟩
    obtain ⟨lc, hxc⟩ : ∃ m, m = ps.length := ⟨_, rfl⟩
    rw [← hxa, ← hxb, ← hxc] at h
    rw [← hxa, ← hxb, ← hxc]
    clear hxa hxb hxc hra hrb hrc hwa hwb hwc
    have hz : (decide (20 < (la : Int)) || (decide (20 < (lb : Int)) || (decide (5 < (lc : Int))))) = true := by
      simp only [Bool.or_eq_true, decide_eq_true_eq]
      omega
    clear h 
    cases h1 : decide (20 < (la : Int)) with
    | true =>
      clear hz
      go_enter Try.func5, Try.ntmps5
      go_wp2_with fail
      refine (awake_any w).mono ?_
      rintro e w1 ⟨rfl, hb⟩
      have HB := Lib.hid hb
      clear hb
      go_wp2
      go_ret
      exact ⟨rfl, HB.out⟩
    | false =>
      rw [h1, Bool.false_or] at hz
      cases h2 : decide (20 < (lb : Int)) with
      | true =>
        clear hz
        go_enter Try.func5, Try.ntmps5
        go_wp2_with fail
        refine (awake_any w).mono ?_
        rintro e w1 ⟨rfl, hb⟩
        have HB := Lib.hid hb
        clear hb
        go_wp2
        go_ret
        exact ⟨rfl, HB.out⟩
      | false =>
        rw [h2, Bool.false_or] at hz
        go_enter Try.func5, Try.ntmps5
        go_wp2_with fail
        refine (awake_any w).mono ?_
        rintro e w1 ⟨rfl, hb⟩
        have HB := Lib.hid hb
        clear hb
        go_wp2
        go_ret
        exact ⟨rfl, HB.out⟩

end Go.Proofs.Ytdldclakkplliaa
