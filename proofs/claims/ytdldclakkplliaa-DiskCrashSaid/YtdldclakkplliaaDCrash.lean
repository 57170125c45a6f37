/- The walk of DiskCrash: behind a crash what was flushed is there, of the others those that the picks say, one of them torn; the old disk stays; so it goes on. Conditions: none. -/
import Derived.Test.YtdldclakkplliaaShows
namespace Go.Proofs.Ytdldclakkplliaa
set_option linter.unusedVariables false
set_option linter.unusedSimpArgs false
open Go.RowKit

theorem RI.zero' {w0 w : World} {col : Nat → Nat} {A : Option Addr} {xs : List Int} (h : RI w0 A xs) (ho : Old w0 w col) : 0 < xs.length → ∀ ad, A = some ad → col ad.block = 0 := by
  intro hp ad e
  obtain ⟨ad', e', hc⟩ := h.at_ 0 hp
  rw [e] at e'
  cases e'
  have := World.block_lt_of_cell? w0 _ hc
  rw [add_block] at this
  exact ho.zero _ this
theorem Pair.one {w w' : World} {col col' : Nat → Nat} {id idm gd mb gm a j : Nat} {d : DK} {r : RK} (h : Pair w col id idm gd mb gm a d r) (s : Step j w col w' col') (h0 : j ≠ 0) (h1 : j ≠ id) (h2 : j ≠ idm) : Pair w' col' id idm gd mb gm a d r :=
  ⟨h.disk.step s h1 h0, h.ref.step s h2 h0, h.twin, h.fits, h.m⟩
/-- The two crashes, one behind the other: a new pair. -/
theorem pair_crash {w w1 w2 : World} {col c1 c2 : Nat → Nat} {id idm gd mb gm a i3 i4 gd3 mb3 gm4 : Nat} {d : DK} {r : RK} {ps : List Int} {f : Int → Option Wr} {g : Nat → Option Wr} (h : Pair w col id idm gd mb gm a d r) (s2 : Step i4 w1 c1 w2 c2) (h4 : i4 ≠ 0) (h43 : i4 ≠ i3)
    (hd : DiskAt w1 c1 i3 gd3 mb3 ⟨d.n, f, [], false, false, 0, 0, d.m + (liveK (pickK ps 0) d.cache d.cache.length).length⟩) (hr : RefAt w2 c2 i4 gm4 (rcrashK r g))
    (hf : ∀ i, secB (f i) = crashB (tornK (pickK ps 1) (liveK (pickK ps 0) d.cache d.cache.length).length) (pickK ps 2 % 65).toNat (fun i => secB (d.safe i)) (liveK (pickK ps 0) d.cache d.cache.length) (liveK (pickK ps 0) d.cache d.cache.length).length i)
    (hg : ∀ i : Nat, secB (g i) = crashB (tornK (pickK ps 1) (liveK (pickK ps 0) r.cache r.cache.length).length) (pickK ps 2 % 65).toNat (fun i => secB (r.safe i.toNat)) (liveK (pickK ps 0) r.cache r.cache.length) (liveK (pickK ps 0) r.cache r.cache.length).length i) :
    ∃ d' r', Pair w2 c2 i3 i4 gd3 mb3 gm4 a d' r' := by
  have hl := liveK_len (pickK ps 0) d.cache d.cache.length
  have hm := h.m
  exact ⟨_, _, hd.step s2 h43 h4, hr, twin_crash h.twin (disk_pos h.disk) ps hf hg, ⟨by simp, by simp, by simp, by simp, by simp⟩, by show d.m + _ + ([] : List Wr).length ≤ a; simp; omega⟩

set_option maxRecDepth 100000 in
set_option maxHeartbeats 8000000 in
theorem dcrash_walk (n : Nat) (A B C D : Option Addr) (ca cb cc cd : Nat) (ss : List S3) (ps : List Int) (tt : List S3) (qs : List Int) (w : World) (hra : RT w A ss) (hrb : RI w B ps) (hrc : RT w C tt) (hrd : RI w D qs) (hn : 1 ≤ n ∧ n ≤ 60) (hla : ss.length ≤ 60) (hlb : ps.length ≤ 10) (hlc : tt.length ≤ 60) (hld : qs.length ≤ 10)
    (hwa : ∀ s ∈ ss, s.wf) (hwb : ∀ x ∈ ps, -9223372036854775808 ≤ x ∧ x ≤ 9223372036854775807) (hwc : ∀ s ∈ tt, s.wf) (hwd : ∀ x ∈ qs, -9223372036854775808 ≤ x ∧ x ≤ 9223372036854775807) :
    Calls Try.prog 9 #[.int .i64 n, .slice A ss.length ca, .slice B ps.length cb, .slice C tt.length cc, .slice D qs.length cd] w fun e w' => e = .returned (.bool true) ∧ Below w.heap.size w w' := by
  have HRA := Lib.hid hra
  have HRB := Lib.hid hrb
  have HRC := Lib.hid hrc
  have HRD := Lib.hid hrd
  have HWA := Lib.hid hwa
  have HWB := Lib.hid hwb
  have HWC := Lib.hid hwc
  have HWD := Lib.hid hwd
  obtain ⟨la, hxa⟩ : ∃ m, m = ss.length := ⟨_, rfl⟩
  obtain ⟨lb, hxb⟩ : ∃ m, m = ps.length := ⟨_, rfl⟩
  obtain ⟨lc, hxc⟩ : ∃ m, m = tt.length := ⟨_, rfl⟩
  obtain ⟨ld, hxd⟩ : ∃ m, m = qs.length := ⟨_, rfl⟩
  rw [← hxa] at hla ⊢
  rw [← hxb] at hlb ⊢
  rw [← hxc] at hlc ⊢
  rw [← hxd] at hld ⊢
  have XA := Lib.hid hxa
  have XB := Lib.hid hxb
  have XC := Lib.hid hxc
  have XD := Lib.hid hxd
  have hz1 : decide (60 < (la : Int)) = false := by simp; omega
  have hz2 : decide (60 < (lc : Int)) = false := by simp; omega
  have hz3 : decide (10 < (lb : Int)) = false := by simp; omega
  have hz4 : decide (10 < (ld : Int)) = false := by simp; omega
  have hz5 : decide ((n : Int) < 1) = false := by simp; omega
  have hz6 : decide (60 < (n : Int)) = false := by simp; omega
  obtain ⟨hn1, hn2⟩ := hn
  clear hra hrb hrc hrd hwa hwb hwc hwd hxa hxb hxc hxd
  go_enter Try.func9, Try.ntmps9
  go_wp2_with fail
  refine (new_any 1 n (by omega) w (fun _ => 0) ⟨by omega, by omega⟩).mono ?_
  rintro e w1 ⟨gd, mb, c1, rfl, s1, h1⟩
  have O1 := Lib.hid ((Old.init w).step s1 (by omega))
  have D1 := Lib.hid h1
  clear s1 h1
  go_wp2_with fail
  refine (rnew_any 2 n (by omega) w1 c1 ⟨by omega, by omega⟩).mono ?_
  rintro e w2 ⟨gm, c2, rfl, s2, h2⟩
  have O2 := Lib.hid (O1.out.step s2 (by omega))
  have P2 : Hid (Pair w2 c2 1 2 gd mb gm 0 (newDK n) (newRK n)) := Lib.hid ⟨D1.out.step s2 (by omega) (by omega), h2, twin_new n, newDK_fits n, by simp [newDK]⟩
  clear s2 h2 O1 D1
  go_wp2
  go_loopw [15, 16, 17] (fun u15 u16 u17 w' => ∃ (i : Nat) (d : DK) (r : RK) (col : Nat → Nat), i ≤ la ∧ u15 = .int .i64 i ∧ Hid (Old w w' col) ∧ Hid (Pair w' col 1 2 gd mb gm i d r)) (fun u15 _ _ _ => la - (intOf u15).toNat)
  case atStart => exact ⟨0, _, _, c2, by omega, rfl, O2, P2⟩
  case round =>
    clear O2 P2
    obtain ⟨i, d, r, col, hi, rfl, HO, HP⟩ := hrel
    by_cases hlt : i < la
    · obtain ⟨s, hs⟩ : ∃ s, ss[i]? = some s := ⟨_, List.getElem?_eq_getElem (by rw [← XA.out]; exact hlt)⟩
      obtain ⟨ad, rfl, x0, x1, x2⟩ := (HRA.out.below HO.out.below).at_ i s hs
      have HS := Lib.hid (HWA.out s (List.mem_of_getElem? hs))
      obtain ⟨sk, sa, sn⟩ := s
      simp only at x0 x1 x2
      clear hs
      go_wp2_with fail
      refine (does_any 1 2 gd mb gm i d r sk sa sn wr col HP.out (by omega) (by omega) (by omega) (by omega) HS.out.2.2).mono ?_
      rintro e w3 ⟨x, d3, r3, c3, rfl, p3, hp3, -⟩
      have O3 := Lib.hid (HO.out.path p3 (fun j hj => by rcases hj with rfl | rfl <;> omega))
      have P3 := Lib.hid hp3
      have hxx : (x != x) = false := by simp
      clear p3 hp3 x0 x1 x2 HO HP
      go_wp2
      go_roundw
      case rel => exact ⟨i + 1, _, _, _, by omega, by go_num, O3, P3⟩
      case measure => simp [intOf]; omega
    · obtain rfl : i = la := by omega
      have P60 := Lib.hid (HP.out.more (b := 60) hla)
      clear HP
      obtain ⟨v6, hv6⟩ := P60.out.disk
      obtain ⟨vs6, vc6, hr6⟩ := P60.out.ref
      have hcl : d.cache.length ≤ 60 := by have := P60.out.fits.2.2.2.2; omega
      have hri := HRB.out.below HO.out.below
      have hzz := RI.zero' HRB.out HO.out
      have hcr := crash_walk 1 3 gd mb v6 d B cb ps wr col hv6 (fun w' col' s => hri.step hzz s (by omega)) (by omega) (by omega) (by omega) (by have := P60.out.m; omega) HWB.out
      rw [← XB.out] at hcr
      have HCR := Lib.hid hcr
      have HR6 := Lib.hid hr6
      have HCL : Hid (r.cache.length ≤ 1000000) := Lib.hid (by rw [← P60.out.twin.len]; omega)
      clear hcr hv6 hr6 hri hzz hcl
      go_wp2_with fail
      refine HCR.out.mono ?_
      rintro e w7 ⟨gx, mx, fx, c7, rfl, s7, h7, hf7⟩
      have O7 := Lib.hid (HO.out.step s7 (by omega))
      have P7 := Lib.hid (P60.out.one s7 (by omega) (by omega) (by omega))
      have HR7 := Lib.hid (HR6.out.step s7 (by omega) (by omega))
      have HX7 := Lib.hid h7
      have HF7 := Lib.hid hf7
      have hri := HRB.out.below O7.out.below
      have hzz := RI.zero' HRB.out O7.out
      have hcr := rcrash_walk 2 4 gm vs6 vc6 r B cb ps w7 c7 HR7.out (fun w' col' s => hri.step hzz s (by omega)) (by omega) (by omega) HCL.out HWB.out
      rw [← XB.out] at hcr
      have HRC7 := Lib.hid hcr
      clear s7 h7 hf7 hri hzz hcr HO HCR HR6 HR7
      go_wp2_with fail
      refine HRC7.out.mono ?_
      rintro e w8 ⟨gy, fy, c8, rfl, s8, h8, hf8⟩
      have O8 := Lib.hid (O7.out.step s8 (by omega))
      have P8 := Lib.hid (P7.out.one s8 (by omega) (by omega) (by omega))
      obtain ⟨dx, ry, hxy⟩ := pair_crash P60.out s8 (by omega) (by omega) HX7.out h8 HF7.out hf8
      have HXY := Lib.hid hxy
      clear s8 h8 hf8 hxy O7 P7 HX7 HF7 HRC7 P60
      go_wp2_with fail
      refine (shows_any 3 4 gx mx gy 60 dx ry w8 c8 HXY.out (by omega)).mono ?_
      rintro e w9 ⟨rfl, hb9⟩
      have O9 := Lib.hid (O8.out.grow hb9 (fun _ => 0))
      have P9 := Lib.hid (P8.out.grow hb9 (fun _ => 0))
      have X9 := Lib.hid (HXY.out.grow hb9 (fun _ => 0))
      clear hb9 O8 P8 HXY
      go_wp2_with fail
      refine (shows_any 1 2 gd mb gm 60 d r w9 _ P9.out (by omega)).mono ?_
      rintro e w10 ⟨rfl, hb10⟩
      have O10 := Lib.hid (O9.out.grow hb10 (fun _ => 0))
      have X10 := Lib.hid (X9.out.grow hb10 (fun _ => 0))
      clear hb10 O9 P9 X9
      go_wp2
      go_loopw [20, 21, 22] (fun u20 u21 u22 w' => ∃ (j : Nat) (d : DK) (r : RK) (col : Nat → Nat), j ≤ lc ∧ u20 = .int .i64 j ∧ Hid (Old w w' col) ∧ Hid (Pair w' col 3 4 gx mx gy (60 + j) d r)) (fun u20 _ _ _ => lc - (intOf u20).toNat)
      case atStart => exact ⟨0, _, _, _, by omega, rfl, O10, X10⟩
      case round =>
        clear O10 X10
        obtain ⟨j, d, r, col, hj, rfl, HO, HP⟩ := hrel
        by_cases hlt : j < lc
        · obtain ⟨s, hs⟩ : ∃ s, tt[j]? = some s := ⟨_, List.getElem?_eq_getElem (by rw [← XC.out]; exact hlt)⟩
          obtain ⟨ad, rfl, x0, x1, x2⟩ := (HRC.out.below HO.out.below).at_ j s hs
          have HS := Lib.hid (HWC.out s (List.mem_of_getElem? hs))
          obtain ⟨sk, sa, sn⟩ := s
          simp only at x0 x1 x2
          clear hs
          go_wp2_with fail
          refine (does_any 3 4 gx mx gy (60 + j) d r sk sa sn wr col HP.out (by omega) (by omega) (by omega) (by omega) HS.out.2.2).mono ?_
          rintro e w3 ⟨x, d3, r3, c3, rfl, p3, hp3, -⟩
          have O3 := Lib.hid (HO.out.path p3 (fun j hj => by rcases hj with rfl | rfl <;> omega))
          have P3 := Lib.hid hp3
          have hxx : (x != x) = false := by simp
          clear p3 hp3 x0 x1 x2 HO HP
          go_wp2
          go_roundw
          case rel => exact ⟨j + 1, _, _, _, by omega, by go_num, O3, P3⟩
          case measure => simp [intOf]; omega
        · obtain rfl : j = lc := by omega
          obtain ⟨v6, hv6⟩ := HP.out.disk
          obtain ⟨vs6, vc6, hr6⟩ := HP.out.ref
          have hcl : d.cache.length ≤ 120 := by have := HP.out.fits.2.2.2.2; omega
          have hri := HRD.out.below HO.out.below
          have hzz := RI.zero' HRD.out HO.out
          have hcr := crash_walk 3 5 gx mx v6 d D cd qs wr col hv6 (fun w' col' s => hri.step hzz s (by omega)) (by omega) (by omega) (by omega) (by have := HP.out.m; omega) HWD.out
          rw [← XD.out] at hcr
          have HCR := Lib.hid hcr
          have HR6 := Lib.hid hr6
          have HCL : Hid (r.cache.length ≤ 1000000) := Lib.hid (by rw [← HP.out.twin.len]; omega)
          clear hcr hv6 hr6 hri hzz hcl
          go_wp2_with fail
          refine HCR.out.mono ?_
          rintro e w7 ⟨gz, mz, fz, c7, rfl, s7, h7, hf7⟩
          have O7 := Lib.hid (HO.out.step s7 (by omega))
          have P7 := Lib.hid (HP.out.one s7 (by omega) (by omega) (by omega))
          have HR7 := Lib.hid (HR6.out.step s7 (by omega) (by omega))
          have HX7 := Lib.hid h7
          have HF7 := Lib.hid hf7
          have hri := HRD.out.below O7.out.below
          have hzz := RI.zero' HRD.out O7.out
          have hcr := rcrash_walk 4 6 gy vs6 vc6 r D cd qs w7 c7 HR7.out (fun w' col' s => hri.step hzz s (by omega)) (by omega) (by omega) HCL.out HWD.out
          rw [← XD.out] at hcr
          have HRC7 := Lib.hid hcr
          clear s7 h7 hf7 hri hzz hcr HO HCR HR6 HR7
          go_wp2_with fail
          refine HRC7.out.mono ?_
          rintro e w8 ⟨gt, ft, c8, rfl, s8, h8, hf8⟩
          have O8 := Lib.hid (O7.out.step s8 (by omega))
          have P8 := Lib.hid (P7.out.one s8 (by omega) (by omega) (by omega))
          obtain ⟨dz, rz, hzt⟩ := pair_crash HP.out s8 (by omega) (by omega) HX7.out h8 HF7.out hf8
          have HZT := Lib.hid hzt
          clear s8 h8 hf8 hzt O7 P7 HX7 HF7 HRC7 HP
          go_wp2_with fail
          refine (shows_any 5 6 gz mz gt (60 + j) dz rz w8 c8 HZT.out (by omega)).mono ?_
          rintro e w9 ⟨rfl, hb9⟩
          have O9 := Lib.hid (O8.out.grow hb9 (fun _ => 0))
          have P9 := Lib.hid (P8.out.grow hb9 (fun _ => 0))
          clear hb9 O8 P8 HZT
          go_wp2_with fail
          refine (shows_any 3 4 gx mx gy (60 + j) d r w9 _ P9.out (by omega)).mono ?_
          rintro e w10 ⟨rfl, hb10⟩
          have O10 := Lib.hid (O9.out.grow hb10 (fun _ => 0))
          clear hb10 O9 P9
          go_wp2_with fail
          refine (awake_any w10).mono ?_
          rintro e w11 ⟨rfl, hb⟩
          have O11 := Lib.hid (O10.out.grow hb (fun _ => 0))
          clear hb
          go_wp2
          go_ret
          exact ⟨rfl, O11.out.below⟩
set_option maxRecDepth 100000 in
theorem dcrash_main (n : Int) (A B C D : Option Addr) (ca cb cc cd : Nat) (ss : List S3) (ps : List Int) (tt : List S3) (qs : List Int) (w : World) (hra : RT w A ss) (hrb : RI w B ps) (hrc : RT w C tt) (hrd : RI w D qs)
    (hwa : ∀ s ∈ ss, s.wf) (hwb : ∀ x ∈ ps, -9223372036854775808 ≤ x ∧ x ≤ 9223372036854775807) (hwc : ∀ s ∈ tt, s.wf) (hwd : ∀ x ∈ qs, -9223372036854775808 ≤ x ∧ x ≤ 9223372036854775807) :
    Calls Try.prog 9 #[.int .i64 n, .slice A ss.length ca, .slice B ps.length cb, .slice C tt.length cc, .slice D qs.length cd] w fun e w' => e = .returned (.bool true) ∧ Below w.heap.size w w' := by
  by_cases h : ss.length ≤ 60 ∧ tt.length ≤ 60 ∧ ps.length ≤ 10 ∧ qs.length ≤ 10 ∧ 1 ≤ n ∧ n ≤ 60
  · obtain ⟨N, rfl⟩ : ∃ N : Nat, n = (N : Int) := ⟨n.toNat, by omega⟩
    exact dcrash_walk N A B C D ca cb cc cd ss ps tt qs w hra hrb hrc hrd ⟨by omega, by omega⟩ h.1 h.2.2.1 h.2.1 h.2.2.2.1 hwa hwb hwc hwd
  · obtain ⟨la, hxa⟩ : ∃ m, m = ss.length := ⟨_, rfl⟩
    obtain ⟨lb, hxb⟩ : ∃ m, m = ps.length := ⟨_, rfl⟩
    obtain ⟨lc, hxc⟩ : ∃ m, m = tt.length := ⟨_, rfl⟩
    obtain ⟨ld, hxd⟩ : ∃ m, m = qs.length := ⟨_, rfl⟩
    rw [← hxa, ← hxb, ← hxc, ← hxd] at h
    rw [← hxa, ← hxb, ← hxc, ← hxd]
    clear hxa hxb hxc hxd hra hrb hrc hrd hwa hwb hwc hwd
    have hz : (decide (60 < (la : Int)) || (decide (60 < (lc : Int)) || (decide (10 < (lb : Int)) || (decide (10 < (ld : Int)) || (decide (n < 1) || (decide (60 < n))))))) = true := by
      simp only [Bool.or_eq_true, decide_eq_true_eq]
      omega
    clear h 
    cases h1 : decide (60 < (la : Int)) with
    | true =>
      clear hz
      go_enter Try.func9, Try.ntmps9
      go_wp2_with fail
      refine (awake_any w).mono ?_
      rintro e w1 ⟨rfl, hb⟩
      have HB := Lib.hid hb
      clear hb
      go_wp2
      go_ret
      exact ⟨rfl, HB.out⟩
    | false =>
      rw [h1, Bool.false_or] at hz
      cases h2 : decide (60 < (lc : Int)) with
      | true =>
        clear hz
        go_enter Try.func9, Try.ntmps9
        go_wp2_with fail
        refine (awake_any w).mono ?_
        rintro e w1 ⟨rfl, hb⟩
        have HB := Lib.hid hb
        clear hb
        go_wp2
        go_ret
        exact ⟨rfl, HB.out⟩
      | false =>
        rw [h2, Bool.false_or] at hz
        cases h3 : decide (10 < (lb : Int)) with
        | true =>
          clear hz
          go_enter Try.func9, Try.ntmps9
          go_wp2_with fail
          refine (awake_any w).mono ?_
          rintro e w1 ⟨rfl, hb⟩
          have HB := Lib.hid hb
          clear hb
          go_wp2
          go_ret
          exact ⟨rfl, HB.out⟩
        | false =>
          rw [h3, Bool.false_or] at hz
          cases h4 : decide (10 < (ld : Int)) with
          | true =>
            clear hz
            go_enter Try.func9, Try.ntmps9
            go_wp2_with fail
            refine (awake_any w).mono ?_
            rintro e w1 ⟨rfl, hb⟩
            have HB := Lib.hid hb
            clear hb
            go_wp2
            go_ret
            exact ⟨rfl, HB.out⟩
          | false =>
            rw [h4, Bool.false_or] at hz
            cases h5 : decide (n < 1) with
            | true =>
              clear hz
              go_enter Try.func9, Try.ntmps9
              go_wp2_with fail
              refine (awake_any w).mono ?_
              rintro e w1 ⟨rfl, hb⟩
              have HB := Lib.hid hb
              clear hb
              go_wp2
              go_ret
              exact ⟨rfl, HB.out⟩
            | false =>
              rw [h5, Bool.false_or] at hz
              go_enter Try.func9, Try.ntmps9
              go_wp2_with fail
              refine (awake_any w).mono ?_
              rintro e w1 ⟨rfl, hb⟩
              have HB := Lib.hid hb
              clear hb
              go_wp2
              go_ret
              exact ⟨rfl, HB.out⟩

end Go.Proofs.Ytdldclakkplliaa
