/- The walk of DiskTorn: of two writes one is torn where the pick says. Conditions: none. -/
import Derived.Test.YtdldclakkplliaaAwake
namespace Go.Proofs.Ytdldclakkplliaa
set_option linter.unusedVariables false
set_option linter.unusedSimpArgs false
open Go.RowKit

noncomputable def G6 : Array Oper := regionOf Try.f6 26
theorem Gns6 : Region.noSelect G6 = true := by kernel_rfl

/-- Its power is there, for good. -/
def DK.calm (d : DK) : Prop := d.cut = false ∧ d.off = false
theorem calm_asked {d : DK} (h : d.calm) : askedK d = ({ d with ops := d.ops + 1, left := d.left - 1 }, 0) := by
  unfold askedK
  rw [if_neg (by rw [h.1, h.2]; simp)]
theorem calm_writeE {d : DK} (h : d.calm) {i : Int} {n : Nat} (hi : 0 ≤ i ∧ i < d.n) (hn : n = 64) : writeE d i n = 0 := by
  unfold writeE
  rw [calm_asked h, if_neg (by simp), if_neg (by omega)]
theorem calm_writeD {d : DK} (h : d.calm) {s : Wr} (hi : 0 ≤ s.at_ ∧ s.at_ < d.n) (hn : s.b.length = 64) : writeD d s = { d with ops := d.ops + 1, left := d.left - 1, cache := d.cache ++ [s] } := by
  unfold writeD
  rw [calm_writeE h hi hn, if_pos rfl, calm_asked h]
theorem calm_flushD {d : DK} (h : d.calm) : flushD d = { d with ops := d.ops + 1, left := d.left - 1, safe := putAll d.safe d.cache, cache := [], m := d.m + d.cache.length } := by
  unfold flushD
  rw [calm_asked h, if_pos rfl]
/-- One that writes what it may: the contract. -/
theorem write_calm (id gd mb : Nat) (d : DK) (n : Nat) (i : Int) (A : Option Addr) (c cl : Nat) (b : List UInt8) (w : World) (col : Nat → Nat) (h : DiskAt w col id gd mb d) (hc : d.calm) (hf : d.fits n) (hn : n ≤ 1000000) (hr : RC w col cl A b) (hcl : cl ≠ id) (hsv : SV A 64 c) (hb : b.length = 64) (hi : 0 ≤ i ∧ i < d.n) :
    Calls Try.prog 28 #[.pointer (some ⟨gd, 0, none⟩), .int .i64 i, .slice A 64 c] w fun e w' => e = .returned (.int .i64 0) ∧ ∃ col' s, Step id w col w' col' ∧ s.at_ = i ∧ s.b = b ∧ DiskAt w' col' id gd mb { d with ops := d.ops + 1, left := d.left - 1, cache := d.cache ++ [s] } := by
  have hw := write_any id gd mb d n i A c cl b w col h hf hn hr hcl (by rw [hb]; exact hsv)
  rw [hb] at hw
  refine hw.mono ?_
  rintro e w' ⟨rfl, col', A', c', st, hd⟩
  rw [hb, calm_writeE hc hi rfl]
  refine ⟨rfl, col', ⟨i, b, A', c'⟩, st, rfl, rfl, ?_⟩
  rw [calm_writeD hc (s := ⟨i, b, A', c'⟩) hi hb] at hd
  exact hd
theorem flush_calm (id gd mb : Nat) (d : DK) (n : Nat) (w : World) (col : Nat → Nat) (h : DiskAt w col id gd mb d) (hc : d.calm) (hf : d.fits n) (hn : n ≤ 1000000) (hm : d.m + d.cache.length ≤ 1000000000) :
    Calls Try.prog 30 #[.pointer (some ⟨gd, 0, none⟩)] w fun e w' => e = .returned (.int .i64 0) ∧ Step id w col w' col ∧ DiskAt w' col id gd mb { d with ops := d.ops + 1, left := d.left - 1, safe := putAll d.safe d.cache, cache := [], m := d.m + d.cache.length } := by
  refine (flush_any id gd mb d n w col h hf hn hm).mono ?_
  rintro e w' ⟨rfl, st, hd⟩
  rw [calm_asked hc]
  rw [calm_flushD hc] at hd
  exact ⟨rfl, st, hd⟩

theorem map_two {ws : List Wr} {x y : Int × List UInt8} (h : ws.map (fun s => (s.at_, s.b)) = [x, y]) : ∃ s t : Wr, ws = [s, t] ∧ (s.at_, s.b) = x ∧ (t.at_, t.b) = y := by
  match ws, h with
  | [s, t], h => simp only [List.map_cons, List.map_nil, List.cons.injEq, and_true] at h; exact ⟨s, t, rfl, h.1, h.2⟩
theorem live3 (s t : Wr) (wh at' : Int) : liveK (pickK [3, wh, at'] 0) [s, t] 2 = [s, t] := by
  have h0 : liveQ 3 0 = true := by kernel_rfl
  have h1 : liveQ 3 1 = true := by kernel_rfl
  simp only [liveK, pickK, List.getD_cons_zero]
  rw [h0, h1]
  simp [elB]
/-- What stands in the sectors behind the crash. -/
def tornB (a b wh at' : Int) (k : Nat) : List UInt8 := if (k : Int) = wh % 2 then (blk 64 (if k = 1 then b else a)).take (at' % 65).toNat ++ (blk 64 ((k : Int) + 5)).drop (at' % 65).toNat else blk 64 (if k = 1 then b else a)

set_option maxRecDepth 100000 in
set_option maxHeartbeats 8000000 in
theorem torn_walk (a b : Int) (wh at' : Int) (w : World) (hw1 : 1 ≤ wh) (hw2 : wh ≤ 1000) (ha1 : -1000 ≤ at') (ha2 : at' ≤ 1000) :
    Calls Try.prog 6 #[.int .i64 a, .int .i64 b, .int .i64 wh, .int .i64 at'] w fun e w' => e = .returned (.bool true) ∧ Below w.heap.size w w' := by
  have hz1 : decide (wh < 1) = false := by simp; omega
  have hz2 : decide (1000 < wh) = false := by simp; omega
  have hz3 : decide (at' < -1000) = false := by simp; omega
  have hz4 : decide (1000 < at') = false := by simp; omega
  go_enter Try.func6, Try.ntmps6
  go_wp2_with fail
  refine (new_any 1 4 (by omega) w (fun _ => 0) ⟨by omega, by omega⟩).mono ?_
  rintro e w1 ⟨gd, mb, c1, rfl, s1, h1⟩
  have O1 := Lib.hid ((Old.init w).step s1 (by omega))
  have D1 := Lib.hid h1
  clear s1 h1
  go_wp2
  go_loopw [11] (fun u11 w' => ∃ (k : Nat) (d : DK) (col : Nat → Nat), k ≤ 2 ∧ u11 = .int .i64 k ∧ Hid (Old w w' col) ∧ Hid (DiskAt w' col 1 gd mb d) ∧ Hid (d.calm ∧ d.n = 4 ∧ d.fits k ∧ d.safe = (fun _ => none) ∧ d.m = 0 ∧ d.cache.map (fun s => (s.at_, s.b)) = [((0 : Int), blk 64 5), (1, blk 64 6)].take k)) (fun u11 _ => 2 - (intOf u11).toNat)
  case atStart => exact ⟨0, newDK 4, c1, by omega, rfl, O1, D1, Lib.hid ⟨⟨rfl, rfl⟩, rfl, newDK_fits 4, rfl, rfl, rfl⟩⟩
  case round =>
    clear O1 D1
    obtain ⟨k, d, col, hk, rfl, HO, HD, HP⟩ := hrel
    by_cases hlt : k < 2
    · have hbk := blkS_any ((k : Int) + 5) wr
      have hbl := blk_length 64 ((k : Int) + 5)
      obtain ⟨B, hB⟩ : ∃ B, B = blk 64 ((k : Int) + 5) := ⟨_, rfl⟩
      rw [← hB] at hbk hbl
      have HBK := Lib.hid hbk
      have HBL := Lib.hid hbl
      have HBE := Lib.hid hB
      clear hbk hbl hB
      go_wp2_with fail
      refine HBK.out.mono ?_
      rintro e w2 ⟨A2, k2, rfl, sv2, rb2, fr2, hb2⟩
      have O2 := Lib.hid (HO.out.grow hb2 (fun _ => 0))
      have D2 := Lib.hid (HD.out.grow hb2 (fun _ => 0))
      have R2 := Lib.hid (RC.new (col := col) 0 rb2 fr2)
      have SV2 := Lib.hid sv2
      clear sv2 rb2 fr2 hb2 HO HD
      go_wp2_with fail
      refine (write_calm 1 gd mb d k k A2 k2 0 B w2 _ D2.out HP.out.1 HP.out.2.2.1 (by omega) R2.out (by omega) SV2.out HBL.out ⟨by omega, by rw [HP.out.2.1]; omega⟩).mono ?_
      rintro e w3 ⟨rfl, c3, s, s3, hsa, hsb, h3⟩
      have O3 := Lib.hid (O2.out.step s3 (by omega))
      have D3 := Lib.hid h3
      have HSA := Lib.hid hsa
      have HSB := Lib.hid hsb
      clear s3 h3 hsa hsb O2 D2 R2
      go_wp2
      go_roundw
      case rel =>
        obtain ⟨p1, p2, p3, p4, p5, p6⟩ := HP.out
        refine ⟨k + 1, _, c3, by omega, by go_num, O3, D3, Lib.hid ⟨p1, p2, ?_, p4, p5, ?_⟩⟩
        · obtain ⟨q1, q2, q3, q4, q5⟩ := p3
          exact ⟨by show -((k + 1 : Nat) : Int) ≤ d.left - 1; omega, by show d.left - 1 ≤ _; omega, by show 0 ≤ d.ops + 1; omega, by show d.ops + 1 ≤ ((k + 1 : Nat) : Int); omega, by simp; omega⟩
        · show (d.cache ++ [s]).map _ = _
          rw [List.map_append, p6]
          have : k = 0 ∨ k = 1 := by omega
          rcases this with rfl | rfl
          · simp [HSA.out, HSB.out, HBE.out]
          · simp [HSA.out, HSB.out, HBE.out]
      case measure => simp [intOf]; omega
    · obtain rfl : k = 2 := by omega
      obtain ⟨p1, p2, p3, p4, p5, p6⟩ := HP.out
      obtain ⟨t0, t1, hcache, ht0, ht1⟩ := map_two p6
      simp only [Prod.mk.injEq] at ht0 ht1
      have HC0 := Lib.hid hcache
      have HT0 := Lib.hid ht0
      have HT1 := Lib.hid ht1
      have hfl := flush_calm 1 gd mb d 2 wr col HD.out p1 p3 (by omega) (by rw [hcache, p5]; simp)
      have HFL := Lib.hid hfl
      have p1' := Lib.hid p1
      have p2' := Lib.hid p2
      have p3' := Lib.hid p3
      have p4' := Lib.hid p4
      have p5' := Lib.hid p5
      clear hcache ht0 ht1 hfl p1 p2 p3 p4 p5 p6
      go_wp2_with fail
      refine HFL.out.mono ?_
      rintro e w2 ⟨rfl, s2, h2⟩
      have O2 := Lib.hid (HO.out.step s2 (by omega))
      obtain ⟨d2, hd2⟩ : ∃ e, e = ({ d with ops := d.ops + 1, left := d.left - 1, safe := putAll d.safe d.cache, cache := [], m := d.m + d.cache.length } : DK) := ⟨_, rfl⟩
      rw [← hd2] at h2
      have D2 := Lib.hid h2
      have HQ2 : Hid (d2.calm ∧ d2.n = 4 ∧ d2.fits 3 ∧ d2.cache = [] ∧ d2.m = 2 ∧ d2.safe = putAll (fun _ => none) [t0, t1]) := Lib.hid (by
        rw [hd2]
        obtain ⟨q1, q2, q3, q4, q5⟩ := p3'.out
        refine ⟨p1'.out, p2'.out, ⟨?_, ?_, ?_, ?_, ?_⟩, rfl, ?_, ?_⟩
        · show -((3 : Nat) : Int) ≤ d.left - 1; omega
        · show d.left - 1 ≤ _; omega
        · show 0 ≤ d.ops + 1; omega
        · show d.ops + 1 ≤ ((3 : Nat) : Int); omega
        · show 0 ≤ 3; omega
        · show d.m + d.cache.length = 2; rw [p5'.out, HC0.out]; rfl
        · show putAll d.safe d.cache = _; rw [p4'.out, HC0.out])
      have hba := blkS_any a w2
      have hla := blk_length 64 a
      obtain ⟨BA, hBA⟩ : ∃ B, B = blk 64 a := ⟨_, rfl⟩
      rw [← hBA] at hba hla
      have HBA := Lib.hid hba
      have HLA := Lib.hid hla
      have HEA := Lib.hid hBA
      clear s2 h2 hd2 HO HD HFL HP hba hla hBA
      go_wp2_with fail
      refine HBA.out.mono ?_
      rintro e w3 ⟨A3, k3, rfl, sv3, rb3, fr3, hb3⟩
      have O3 := Lib.hid (O2.out.grow hb3 (fun _ => 0))
      have D3 := Lib.hid (D2.out.grow hb3 (fun _ => 0))
      have R3 := Lib.hid (RC.new (col := col) 0 rb3 fr3)
      have SV3 := Lib.hid sv3
      clear sv3 rb3 fr3 hb3 O2 D2
      go_wp2_with fail
      refine (write_calm 1 gd mb d2 3 0 A3 k3 0 BA w3 _ D3.out HQ2.out.1 HQ2.out.2.2.1 (by omega) R3.out (by omega) SV3.out HLA.out ⟨by omega, by rw [HQ2.out.2.1]; omega⟩).mono ?_
      rintro e w4 ⟨rfl, c4, u0, s4, ha4, hb4, h4⟩
      have O4 := Lib.hid (O3.out.step s4 (by omega))
      obtain ⟨d4, hd4⟩ : ∃ e, e = ({ d2 with ops := d2.ops + 1, left := d2.left - 1, cache := d2.cache ++ [u0] } : DK) := ⟨_, rfl⟩
      rw [← hd4] at h4
      have D4 := Lib.hid h4
      have HQ4 : Hid (d4.calm ∧ d4.n = 4 ∧ d4.fits 4 ∧ d4.cache = [u0] ∧ d4.m = 2 ∧ d4.safe = putAll (fun _ => none) [t0, t1]) := Lib.hid (by
        rw [hd4]
        obtain ⟨r1, r2, ⟨q1, q2, q3, q4, q5⟩, r4, r5, r6⟩ := HQ2.out
        refine ⟨r1, r2, ⟨?_, ?_, ?_, ?_, ?_⟩, by show d2.cache ++ [u0] = _; rw [r4]; rfl, r5, r6⟩
        · show -((4 : Nat) : Int) ≤ d2.left - 1; omega
        · show d2.left - 1 ≤ _; omega
        · show 0 ≤ d2.ops + 1; omega
        · show d2.ops + 1 ≤ ((4 : Nat) : Int); omega
        · show (d2.cache ++ [u0]).length ≤ 4; rw [r4]; simp)
      have HU0 := Lib.hid (And.intro ha4 hb4)
      have hbb := blkS_any b w4
      have hlb := blk_length 64 b
      obtain ⟨BB, hBB⟩ : ∃ B, B = blk 64 b := ⟨_, rfl⟩
      rw [← hBB] at hbb hlb
      have HBB := Lib.hid hbb
      have HLB := Lib.hid hlb
      have HEB := Lib.hid hBB
      clear s4 h4 hd4 ha4 hb4 O3 D3 R3 SV3 hbb hlb hBB
      go_wp2_with fail
      refine HBB.out.mono ?_
      rintro e w5 ⟨A5, k5, rfl, sv5, rb5, fr5, hb5⟩
      have O5 := Lib.hid (O4.out.grow hb5 (fun _ => 0))
      have D5 := Lib.hid (D4.out.grow hb5 (fun _ => 0))
      have R5 := Lib.hid (RC.new (col := c4) 0 rb5 fr5)
      have SV5 := Lib.hid sv5
      clear sv5 rb5 fr5 hb5 O4 D4
      go_wp2_with fail
      refine (write_calm 1 gd mb d4 4 1 A5 k5 0 BB w5 _ D5.out HQ4.out.1 HQ4.out.2.2.1 (by omega) R5.out (by omega) SV5.out HLB.out ⟨by omega, by rw [HQ4.out.2.1]; omega⟩).mono ?_
      rintro e w6 ⟨rfl, c6, u1, s6, ha6, hb6, h6⟩
      have O6 := Lib.hid (O5.out.step s6 (by omega))
      obtain ⟨d6, hd6⟩ : ∃ e, e = ({ d4 with ops := d4.ops + 1, left := d4.left - 1, cache := d4.cache ++ [u1] } : DK) := ⟨_, rfl⟩
      rw [← hd6] at h6
      obtain ⟨v6, V6⟩ := h6
      have HQ6 : Hid (d6.n = 4 ∧ d6.cache = [u0, u1] ∧ d6.m = 2 ∧ d6.safe = putAll (fun _ => none) [t0, t1]) := Lib.hid (by
        rw [hd6]
        obtain ⟨r1, r2, -, r4, r5, r6⟩ := HQ4.out
        exact ⟨r2, by show d4.cache ++ [u1] = _; rw [r4]; rfl, r5, r6⟩)
      have HU1 := Lib.hid (And.intro ha6 hb6)
      obtain ⟨A6, k6, rfl, -⟩ := own_FW V6.own
      have HV6 := Lib.hid V6
      have hcd := cached_any gd mb A6 d6.cache.length k6 d6 w6 V6.obj
      rw [HQ6.out.2.1] at hcd
      have HCD := Lib.hid hcd
      clear s6 hd6 ha6 hb6 O5 D5 R5 SV5 V6 hcd
      go_wp2_with fail
      refine HCD.out.mono ?_
      rintro e w' ⟨rfl, rfl⟩
      have hb7 := bel_alloc (Below.refl w6.heap.size w6) (.cells #[.int .i64 3, .int .i64 wh, .int .i64 at'] 3)
      have O7 := Lib.hid (O6.out.grow hb7 (fun _ => 0))
      have V7 := Lib.hid (HV6.out.grow hb7 (fun _ => 0))
      have hri := RI.lit3 w6 3 wh at' 3 rfl
      have HRI := Lib.hid (show ∀ (w' : World) (col' : Nat → Nat), Step 2 (w6.alloc (.cells #[.int .i64 3, .int .i64 wh, .int .i64 at'] 3)) (paint w6 c6 (fun _ => 0)) w' col' → RI w' (some ⟨w6.heap.size, 0, none⟩) [3, wh, at'] from fun w' col' s => hri.step (fun _ ad e => by cases e; exact paint_new (Nat.le_refl _)) s (by omega))
      clear hb7 hri O6 HV6 HCD
      go_wp2_with fail
      refine (crash_walk 1 2 gd mb _ d6 _ 3 [3, wh, at'] _ _ V7.out HRI.out (by omega) (by omega) (by rw [HQ6.out.2.1]; simp) (by rw [HQ6.out.2.1, HQ6.out.2.2.1]; simp) (fun x hx => by simp at hx; omega)).mono ?_
      rintro e w8 ⟨gc, mc, fc, c8, rfl, s8, h8, hf8⟩
      rw [HQ6.out.2.1] at hf8 h8
      simp only [List.length_cons, List.length_nil, Nat.zero_add, Nat.reduceAdd] at hf8 h8
      rw [live3] at hf8 h8
      have O8 := Lib.hid (O7.out.step s8 (by omega))
      obtain ⟨dC, hdC⟩ : ∃ e, e = (⟨d6.n, fc, [], false, false, 0, 0, d6.m + [u0, u1].length⟩ : DK) := ⟨_, rfl⟩
      rw [← hdC] at h8
      have D8 := Lib.hid h8
      have HC8 : Hid (dC.calm ∧ dC.n = 4 ∧ dC.fits 0 ∧ dC.cache = [] ∧ dC.m = 4) := Lib.hid (by
        rw [hdC]
        exact ⟨⟨rfl, rfl⟩, HQ6.out.1, ⟨by simp, by simp, by simp, by simp, by simp⟩, rfl, by show d6.m + 2 = 4; rw [HQ6.out.2.2.1]⟩)
      have HR8 : Hid (∀ k : Nat, k < 2 → readB dC k = tornB a b wh at' k) := Lib.hid (by
        intro k hk
        have hr : readB dC (k : Int) = secB (fc k) := by
          rw [hdC]
          unfold readB readS
          rw [show lastW [] (k : Int) = none from rfl]
          rfl
        rw [hr, hf8 k]
        have htn : tornK (pickK [3, wh, at'] 1) 2 = wh % 2 := by
          unfold tornK
          rw [show pickK [3, wh, at'] 1 = wh from rfl, if_pos ⟨by omega, by omega⟩]
          rfl
        simp only [List.length_cons, List.length_nil, Nat.zero_add, Nat.reduceAdd]
        rw [htn, show pickK [3, wh, at'] 2 = at' from rfl, HQ6.out.2.2.2]
        simp only [crashB, elB, List.getD_cons_zero, List.getD_cons_succ]
        rw [HU0.out.1, HU0.out.2, HU1.out.1, HU1.out.2]
        unfold tornB
        have hk2 : k = 0 ∨ k = 1 := by omega
        have hs0 : secB (putAll (fun _ => none) [t0, t1] 0) = blk 64 5 := by
          simp only [putAll, List.foldl_cons, List.foldl_nil, upd]
          rw [HT1.out.1, if_neg (by omega), HT0.out.1, if_pos rfl]
          exact HT0.out.2
        have hs1 : secB (putAll (fun _ => none) [t0, t1] 1) = blk 64 6 := by
          simp only [putAll, List.foldl_cons, List.foldl_nil, upd]
          rw [HT1.out.1, if_pos rfl]
          exact HT1.out.2
        rcases hk2 with rfl | rfl
        · rw [hs0, if_neg (by decide), if_pos (by decide), HEA.out]; rfl
        · rw [hs1, if_pos (show ((1 : Nat) : Int) = 1 from rfl), if_neg (show ¬ (1 : Int) = 0 by decide), HEB.out]; rfl)
      obtain ⟨t, ht⟩ : ∃ t : Nat, (t : Int) = at' % 65 := ⟨(at' % 65).toNat, by omega⟩
      have ht64 : t ≤ 64 := by omega
      have HT := Lib.hid ht
      have HTN := Lib.hid (show (at' % 65).toNat = t by omega)
      clear s8 h8 hf8 hdC ht O7 V7 HRI HQ6 HU0 HU1 HC0 HT0 HT1 HQ4 HQ2 HBB HBA
      go_wp2_with fail
      refine (round_any at' 65 w8 (by omega) (by omega) (by omega) (by omega)).mono ?_
      rintro e w' ⟨rfl, rfl⟩
      rw [← HT.out]
      go_wp2
      go_loopw [14, 15, 16, 17, 18] (fun u14 u15 u16 u17 u18 w' => ∃ k : Nat, k ≤ 2 ∧ u14 = .int .i64 k ∧ Hid (Below w8.heap.size w8 w')) (fun u14 _ _ _ _ _ => 2 - (intOf u14).toNat)
      case atStart => exact ⟨0, by omega, rfl, Lib.hid (Below.refl _ _)⟩
      case round =>
        obtain ⟨k, hk, rfl, HB⟩ := hrel
        by_cases hlt : k < 2
        · have D9 := Lib.hid (D8.out.below HB.out)
          have HLT := Lib.hid hlt
          go_wp2_with fail
          refine (blkS_any a wr).mono ?_
          rintro e X1 ⟨A1, k1, rfl, sv1, rb1, fr1, hb1⟩
          have SV1 := Lib.hid sv1
          have RB1 := Lib.hid rb1
          have HB1 := Lib.hid (bel_then HB.out hb1)
          clear sv1 rb1 fr1 hb1
          go_upto_if 93 with fail
          go_cut [15] (fun s15 wx => ∃ A c, s15 = .slice A 64 c ∧ Hid (SV A 64 c) ∧ Hid (RB wx A (blk 64 (if k = 1 then b else a))) ∧ Hid (Below w8.heap.size w8 wx))
          case first =>
            by_cases h1 : k = 1
            · subst h1
              go_wp2_with fail
              refine (blkS_any b X1).mono ?_
              rintro e X2 ⟨A2, k2, rfl, sv2, rb2, fr2, hb2⟩
              have SV2 := Lib.hid sv2
              have RB2 := Lib.hid rb2
              have HB2 := Lib.hid (bel_then HB1.out hb2)
              clear sv2 rb2 fr2 hb2
              go_wp2
              go_meet
              exact ⟨A2, k2, rfl, SV2, RB2, HB2⟩
            · have h1b : ((k : Int) == 1) = false := by simp; omega
              have HK1 := Lib.hid h1
              clear h1
              go_wp2
              go_meet
              exact ⟨A1, k1, rfl, SV1, Lib.hid (by rw [if_neg HK1.out]; exact RB1.out), HB1⟩
          case rest =>
            obtain ⟨A5, c5, rfl, SV5, RB5, HB5⟩ := hcut
            obtain ⟨BK, hBK⟩ : ∃ B, B = blk 64 (if k = 1 then b else a) := ⟨_, rfl⟩
            rw [← hBK] at RB5
            have HLK := Lib.hid (show BK.length = 64 by rw [hBK]; exact blk_length _ _)
            have HEK := Lib.hid hBK
            obtain ⟨TB, hTB⟩ : ∃ B, B = tornB a b wh at' k := ⟨_, rfl⟩
            have HTB := Lib.hid hTB
            have D10 := Lib.hid (D8.out.below HB5.out)
            clear hBK hTB D9 SV1 RB1 HB1
            go_wp2_with fail
            refine (read_use 2 gc mc dC k wc c8 D10.out ⟨by omega, by rw [HC8.out.2.1]; omega⟩ (by rw [HC8.out.2.2.2.1]; simp) TB ((HR8.out k HLT.out).trans HTB.out.symm)).mono ?_
            rintro e X2 ⟨A6, c6x, rfl, sv6, rb6, hl6, hb6⟩
            have RB5' := Lib.hid (RB5.out.below hb6)
            have RB6 := Lib.hid rb6
            have HL6 := Lib.hid hl6
            have HB6 := Lib.hid (bel_then HB5.out hb6)
            have hq5 := conv_str (n := 64) (c := c5) HLK.out.symm RB5'.out
            clear sv6 rb6 hl6 hb6 D10 RB5
            go_upto_if 107 with fail
            go_cut [18] (fun s18 wx => s18 = .string ⟨TB.toArray⟩ ∧ Hid (Below X2.heap.size X2 wx))
            case first =>
              by_cases hp : (k : Int) = wh % 2
              · have hpb : (wh % 2 == (k : Int)) = true := by rw [hp]; exact beq_self_eq_true _
                have HP := Lib.hid hp
                obtain ⟨L1, hL1⟩ : ∃ L, L = BK.take t := ⟨_, rfl⟩
                obtain ⟨L2, hL2⟩ : ∃ L, L = (blk 64 ((k : Int) + 5)).drop t := ⟨_, rfl⟩
                have hTE : TB = L1 ++ L2 := by rw [hL1, hL2, HTB.out, HEK.out]; unfold tornB; rw [if_pos HP.out, HTN.out]
                obtain ⟨V, hV⟩ : ∃ V, V = X2.drew := ⟨_, rfl⟩
                have hb2V : Below X2.heap.size X2 V := by rw [hV]; exact bel_drew (Below.refl _ _)
                have hcut5 : RB V A5 L1 := by
                  have h1 := (RB5'.out.below hb2V).cut (A' := A5) 0 t (by rw [HLK.out]; omega) (fun _ ad e => by rw [e]; unfold Addr.add; simp)
                  rw [List.drop_zero] at h1
                  rw [hL1]
                  exact h1
                have hl1 : L1.length = t := by rw [hL1, List.length_take, HLK.out]; omega
                have hl2 : L2.length = 64 - t := by rw [hL2, List.length_drop, blk_length]
                have q0 := conv_str (n := t) (c := c5) hl1.symm hcut5
                have HRBN := Lib.hid hcut5
                have HL1 := Lib.hid hl1
                have HB2V := Lib.hid hb2V
                have HB0 := Lib.hid (Below.refl V.heap.size V)
                have haft : ∀ (X : World) (ad9 : Addr) (c9 : Nat), SV (some ad9) 64 c9 → RB X (some ad9) (blk 64 (IntKind.i64.wrap ((k : Int) + 5))) → ∃ a96, (if c9 = t then some ad9 else some (ad9.add t)) = some a96 ∧ (convert 22 9 (.slice (some a96) (64 - t) (c9 - t))).run Try.prog X = .ok (.string ⟨L2.toArray⟩) X := by
                  intro X ad9 c9 hsv hrb
                  rw [IntWalk.i64_in _ (by omega)] at hrb
                  obtain ⟨a96, ha⟩ : ∃ a96, (if c9 = t then some ad9 else some (ad9.add t)) = some a96 := by split <;> exact ⟨_, rfl⟩
                  refine ⟨a96, ha, ?_⟩
                  have h1 := hrb.cut (A' := some a96) t (64 - t) (by rw [blk_length]; omega) (fun hp ad e => by
                    cases e
                    rw [← ha, if_neg (by have := hsv.1; omega)])
                  rw [← hL2, List.take_of_length_le (by rw [hl2]; omega)] at h1
                  exact conv_str (n := 64 - t) (c := c9 - t) hl2.symm h1
                have hcat : ((⟨L1.toArray⟩ : ByteArray) ++ ⟨L2.toArray⟩) = ⟨TB.toArray⟩ := by
                  rw [hTE]
                  apply ByteArray.ext
                  rw [ByteArray.data_append]
                  simp
                have hcl : ¬ 9223372036854775807 < L1.length + L2.length := by omega
                have HAFT := Lib.hid haft
                clear haft
                have b5 : t ≤ c5 := by have := SV5.out.1; omega
                have b64 : (t : Int) ≤ 64 := by omega
                clear hp hTE hcut5 hl1 hl2 hL1 hL2 hq5
                go_wp2_with fail
                refine region_const (G := G6) (S := fun X => Below V.heap.size V X) (n := 12) (by kernel_rfl) (by kernel_rfl) rfl (by rw [← hV]; exact Below.refl _ _) (fun HG hS0 => ?_)
                have Gns := Gns6
                rw [← hV]
                rw [← hV] at hS0
                clear hV hb2V
                simp only [Array.replicate_succ, Array.replicate_zero, List.push_toArray, List.nil_append, List.cons_append]
                refine wpAnyH_take (i := 0) (v := ?_) (o_at HG 0 rfl) Gns (by kernel_rfl) (by kernel_rfl) (fun _ _ _ h => h) (Or.inl ⟨(by kernel_rfl), ?_⟩) (by first | trivial | assumption) ?_
                rotate_left
                · (intro w hSw; (try dsimp only at hSw); go_simp; try with_reducible rfl)
                try simp only [Act.put, List.getElem_toArray, List.getElem_cons_zero, List.getElem_cons_succ, List.setIfInBounds_toArray, List.set_cons_zero, List.set_cons_succ]
                refine wpAnyH_take (i := 1) (v := ?_) (o_at HG 1 rfl) Gns (by kernel_rfl) (by kernel_rfl) (fun _ _ _ h => h) (Or.inl ⟨(by kernel_rfl), ?_⟩) (by first | trivial | assumption) ?_
                rotate_left
                · (intro w hSw; (try dsimp only at hSw); go_simp; try with_reducible rfl)
                try simp only [Act.put, List.getElem_toArray, List.getElem_cons_zero, List.getElem_cons_succ, List.setIfInBounds_toArray, List.set_cons_zero, List.set_cons_succ]
                refine wpAnyH_take (i := 2) (v := ?_) (o_at HG 2 rfl) Gns (by kernel_rfl) (by kernel_rfl) (fun _ _ _ h => h) (Or.inl ⟨(by kernel_rfl), ?_⟩) (by first | trivial | assumption) ?_
                rotate_left
                · (intro w hSw; (try dsimp only at hSw); go_simp; try with_reducible rfl)
                try simp only [Act.put, List.getElem_toArray, List.getElem_cons_zero, List.getElem_cons_succ, List.setIfInBounds_toArray, List.set_cons_zero, List.set_cons_succ]
                refine wpAnyH_take (i := 4) (v := ?_) (o_at HG 4 rfl) Gns (by kernel_rfl) (by kernel_rfl) (fun _ _ _ h => h) (Or.inl ⟨(by kernel_rfl), ?_⟩) (by first | trivial | assumption) ?_
                rotate_left
                · (intro w hSw; (try dsimp only at hSw); go_simp; try with_reducible rfl)
                try simp only [Act.put, List.getElem_toArray, List.getElem_cons_zero, List.getElem_cons_succ, List.setIfInBounds_toArray, List.set_cons_zero, List.set_cons_succ]
                refine wpAnyH_take (i := 5) (v := ?_) (o_at HG 5 rfl) Gns (by kernel_rfl) (by kernel_rfl) (fun _ _ _ h => h) (Or.inl ⟨(by kernel_rfl), ?_⟩) (by first | trivial | assumption) ?_
                rotate_left
                · (intro w hSw; (try dsimp only at hSw); go_simp; try with_reducible rfl)
                try simp only [Act.put, List.getElem_toArray, List.getElem_cons_zero, List.getElem_cons_succ, List.setIfInBounds_toArray, List.set_cons_zero, List.set_cons_succ]
                refine wpAnyH_take (i := 7) (v := ?_) (o_at HG 7 rfl) Gns (by kernel_rfl) (by kernel_rfl) (fun _ _ _ h => h) (Or.inl ⟨(by kernel_rfl), ?_⟩) (by first | trivial | assumption) ?_
                rotate_left
                · (intro w hSw; (try dsimp only at hSw); go_simp; try with_reducible rfl)
                try simp only [Act.put, List.getElem_toArray, List.getElem_cons_zero, List.getElem_cons_succ, List.setIfInBounds_toArray, List.set_cons_zero, List.set_cons_succ]
                refine wpAnyH_ready (rs := [3, 6]) (by kernel_rfl) (by simp) ?_
                refine AllReadyH.cons (o_at HG 3 rfl) ?_ (AllReadyH.cons (o_at HG 6 rfl) ?_ (AllReadyH.nil))
                · intro K' hK
                  rw [if_pos (by kernel_rfl)]
                  go_simp
                  refine hK.out _ _ HB0.out (fun hS2 => ?_)
                  try simp only [Act.put, List.getElem_toArray, List.getElem_cons_zero, List.getElem_cons_succ, List.setIfInBounds_toArray, List.set_cons_zero, List.set_cons_succ]
                  refine wpAnyH_ready (rs := [6]) (by kernel_rfl) (by simp) ?_
                  refine AllReadyH.cons (o_at HG 6 rfl) ?_ (AllReadyH.nil)
                  · intro K' hK
                    rw [if_pos (by kernel_rfl)]
                    go_simp
                    (with_reducible refine (blkS_any _ _).mono ?_)
                    rintro e X1 ⟨A9, c9, rfl, hsv9, hrb9, -, hb9⟩
                    obtain ⟨ad9, rfl⟩ : ∃ ad, A9 = some ad := (by cases A9 with | none => (have h1 := hsv9.1; have h2 := hsv9.2 rfl; omega) | some ad => exact ⟨ad, rfl⟩)
                    obtain ⟨a96, hA96, q96⟩ := HAFT.out X1 ad9 c9 hsv9 hrb9
                    have b9 : t ≤ c9 := by have := hsv9.1; omega
                    have q95 := conv_str (n := t) (c := c5) HL1.out.symm (HRBN.out.below hb9)
                    refine hK.out _ _ hb9 (fun hS1 => ?_)
                    have HB9 := Lib.hid hb9
                    clear hsv9 hrb9 hb9
                    try simp only [Act.put, List.getElem_toArray, List.getElem_cons_zero, List.getElem_cons_succ, List.setIfInBounds_toArray, List.set_cons_zero, List.set_cons_succ]
                    refine wpAnyH_take (i := 8) (v := ?_) (o_at HG 8 rfl) Gns (by kernel_rfl) (by kernel_rfl) (fun _ _ _ h => h) (Or.inl ⟨(by kernel_rfl), ?_⟩) (by first | trivial | assumption) ?_
                    rotate_left
                    · (intro w hSw; (try dsimp only at hSw); go_simp; try with_reducible rfl)
                    try simp only [Act.put, List.getElem_toArray, List.getElem_cons_zero, List.getElem_cons_succ, List.setIfInBounds_toArray, List.set_cons_zero, List.set_cons_succ]
                    refine wpAnyH_ready (rs := [9]) (by kernel_rfl) (by simp) ?_
                    refine AllReadyH.cons (o_at HG 9 rfl) ?_ (AllReadyH.nil)
                    · intro K' hK
                      rw [if_pos (by kernel_rfl)]
                      go_simp
                      refine hK.out _ _ HB9.out (fun hS2 => ?_)
                      try simp only [Act.put, List.getElem_toArray, List.getElem_cons_zero, List.getElem_cons_succ, List.setIfInBounds_toArray, List.set_cons_zero, List.set_cons_succ]
                      refine wpAnyH_take (i := 10) (v := ?_) (o_at HG 10 rfl) Gns (by kernel_rfl) (by kernel_rfl) (fun _ _ _ h => h) (Or.inl ⟨(by kernel_rfl), ?_⟩) (by first | trivial | assumption) ?_
                      rotate_left
                      · (intro w hSw; (try dsimp only at hSw); go_simp; try with_reducible rfl)
                      try simp only [Act.put, List.getElem_toArray, List.getElem_cons_zero, List.getElem_cons_succ, List.setIfInBounds_toArray, List.set_cons_zero, List.set_cons_succ]
                      refine wpAnyH_take (i := 11) (v := ?_) (o_at HG 11 rfl) Gns (by kernel_rfl) (by kernel_rfl) (fun _ _ _ h => h) (Or.inl ⟨(by kernel_rfl), ?_⟩) (by first | trivial | assumption) ?_
                      rotate_left
                      · (intro w hSw; (try dsimp only at hSw); go_simp; try with_reducible rfl)
                      try simp only [Act.put, List.getElem_toArray, List.getElem_cons_zero, List.getElem_cons_succ, List.setIfInBounds_toArray, List.set_cons_zero, List.set_cons_succ]
                      refine wpAnyH_done (by kernel_rfl) ?_ _
                      go_wp2
                      go_meet
                      exact ⟨rfl, Lib.hid (bel_then HB2V.out HB9.out)⟩
                · intro K' hK
                  rw [if_pos (by kernel_rfl)]
                  go_simp
                  (with_reducible refine (blkS_any _ _).mono ?_)
                  rintro e X1 ⟨A9, c9, rfl, hsv9, hrb9, -, hb9⟩
                  obtain ⟨ad9, rfl⟩ : ∃ ad, A9 = some ad := (by cases A9 with | none => (have h1 := hsv9.1; have h2 := hsv9.2 rfl; omega) | some ad => exact ⟨ad, rfl⟩)
                  obtain ⟨a96, hA96, q96⟩ := HAFT.out X1 ad9 c9 hsv9 hrb9
                  have b9 : t ≤ c9 := by have := hsv9.1; omega
                  have q95 := conv_str (n := t) (c := c5) HL1.out.symm (HRBN.out.below hb9)
                  refine hK.out _ _ hb9 (fun hS1 => ?_)
                  have HB9 := Lib.hid hb9
                  clear hsv9 hrb9 hb9
                  try simp only [Act.put, List.getElem_toArray, List.getElem_cons_zero, List.getElem_cons_succ, List.setIfInBounds_toArray, List.set_cons_zero, List.set_cons_succ]
                  refine wpAnyH_take (i := 8) (v := ?_) (o_at HG 8 rfl) Gns (by kernel_rfl) (by kernel_rfl) (fun _ _ _ h => h) (Or.inl ⟨(by kernel_rfl), ?_⟩) (by first | trivial | assumption) ?_
                  rotate_left
                  · (intro w hSw; (try dsimp only at hSw); go_simp; try with_reducible rfl)
                  try simp only [Act.put, List.getElem_toArray, List.getElem_cons_zero, List.getElem_cons_succ, List.setIfInBounds_toArray, List.set_cons_zero, List.set_cons_succ]
                  refine wpAnyH_ready (rs := [3, 9]) (by kernel_rfl) (by simp) ?_
                  refine AllReadyH.cons (o_at HG 3 rfl) ?_ (AllReadyH.cons (o_at HG 9 rfl) ?_ (AllReadyH.nil))
                  · intro K' hK
                    rw [if_pos (by kernel_rfl)]
                    go_simp
                    refine hK.out _ _ HB9.out (fun hS2 => ?_)
                    try simp only [Act.put, List.getElem_toArray, List.getElem_cons_zero, List.getElem_cons_succ, List.setIfInBounds_toArray, List.set_cons_zero, List.set_cons_succ]
                    refine wpAnyH_ready (rs := [9]) (by kernel_rfl) (by simp) ?_
                    refine AllReadyH.cons (o_at HG 9 rfl) ?_ (AllReadyH.nil)
                    · intro K' hK
                      rw [if_pos (by kernel_rfl)]
                      go_simp
                      refine hK.out _ _ HB9.out (fun hS2 => ?_)
                      try simp only [Act.put, List.getElem_toArray, List.getElem_cons_zero, List.getElem_cons_succ, List.setIfInBounds_toArray, List.set_cons_zero, List.set_cons_succ]
                      refine wpAnyH_take (i := 10) (v := ?_) (o_at HG 10 rfl) Gns (by kernel_rfl) (by kernel_rfl) (fun _ _ _ h => h) (Or.inl ⟨(by kernel_rfl), ?_⟩) (by first | trivial | assumption) ?_
                      rotate_left
                      · (intro w hSw; (try dsimp only at hSw); go_simp; try with_reducible rfl)
                      try simp only [Act.put, List.getElem_toArray, List.getElem_cons_zero, List.getElem_cons_succ, List.setIfInBounds_toArray, List.set_cons_zero, List.set_cons_succ]
                      refine wpAnyH_take (i := 11) (v := ?_) (o_at HG 11 rfl) Gns (by kernel_rfl) (by kernel_rfl) (fun _ _ _ h => h) (Or.inl ⟨(by kernel_rfl), ?_⟩) (by first | trivial | assumption) ?_
                      rotate_left
                      · (intro w hSw; (try dsimp only at hSw); go_simp; try with_reducible rfl)
                      try simp only [Act.put, List.getElem_toArray, List.getElem_cons_zero, List.getElem_cons_succ, List.setIfInBounds_toArray, List.set_cons_zero, List.set_cons_succ]
                      refine wpAnyH_done (by kernel_rfl) ?_ _
                      go_wp2
                      go_meet
                      exact ⟨rfl, Lib.hid (bel_then HB2V.out HB9.out)⟩
                  · intro K' hK
                    rw [if_pos (by kernel_rfl)]
                    go_simp
                    refine hK.out _ _ HB9.out (fun hS2 => ?_)
                    try simp only [Act.put, List.getElem_toArray, List.getElem_cons_zero, List.getElem_cons_succ, List.setIfInBounds_toArray, List.set_cons_zero, List.set_cons_succ]
                    refine wpAnyH_ready (rs := [3]) (by kernel_rfl) (by simp) ?_
                    refine AllReadyH.cons (o_at HG 3 rfl) ?_ (AllReadyH.nil)
                    · intro K' hK
                      rw [if_pos (by kernel_rfl)]
                      go_simp
                      refine hK.out _ _ HB9.out (fun hS2 => ?_)
                      try simp only [Act.put, List.getElem_toArray, List.getElem_cons_zero, List.getElem_cons_succ, List.setIfInBounds_toArray, List.set_cons_zero, List.set_cons_succ]
                      refine wpAnyH_take (i := 10) (v := ?_) (o_at HG 10 rfl) Gns (by kernel_rfl) (by kernel_rfl) (fun _ _ _ h => h) (Or.inl ⟨(by kernel_rfl), ?_⟩) (by first | trivial | assumption) ?_
                      rotate_left
                      · (intro w hSw; (try dsimp only at hSw); go_simp; try with_reducible rfl)
                      try simp only [Act.put, List.getElem_toArray, List.getElem_cons_zero, List.getElem_cons_succ, List.setIfInBounds_toArray, List.set_cons_zero, List.set_cons_succ]
                      refine wpAnyH_take (i := 11) (v := ?_) (o_at HG 11 rfl) Gns (by kernel_rfl) (by kernel_rfl) (fun _ _ _ h => h) (Or.inl ⟨(by kernel_rfl), ?_⟩) (by first | trivial | assumption) ?_
                      rotate_left
                      · (intro w hSw; (try dsimp only at hSw); go_simp; try with_reducible rfl)
                      try simp only [Act.put, List.getElem_toArray, List.getElem_cons_zero, List.getElem_cons_succ, List.setIfInBounds_toArray, List.set_cons_zero, List.set_cons_succ]
                      refine wpAnyH_done (by kernel_rfl) ?_ _
                      go_wp2
                      go_meet
                      exact ⟨rfl, Lib.hid (bel_then HB2V.out HB9.out)⟩
              · have hpb : (wh % 2 == (k : Int)) = false := by simp; omega
                have HP := Lib.hid hp
                have hTE : TB = BK := by rw [HTB.out, HEK.out]; unfold tornB; rw [if_neg HP.out]
                clear hp
                go_wp2
                go_meet
                rw [hTE]
                exact ⟨rfl, Lib.hid (Below.refl _ _)⟩
            case rest =>
              obtain ⟨rfl, HBC⟩ := hcut
              have hq6 := conv_str (n := 64) (c := c6x) HL6.out.symm (RB6.out.below HBC.out)
              have HB7 := Lib.hid (bel_then HB6.out HBC.out)
              go_wp2
              go_roundw
              case rel => exact ⟨k + 1, by omega, by go_num, HB7⟩
              case measure => simp [intOf]; omega
        · obtain rfl : k = 2 := by omega
          have D9 := Lib.hid (D8.out.grow HB.out (fun _ => 0))
          have O9 := Lib.hid (O8.out.grow HB.out (fun _ => 0))
          obtain ⟨v9, V9⟩ := D9.out
          obtain ⟨A9, k9, rfl, -⟩ := own_FW V9.own
          have hcd := cached_any gc mc A9 dC.cache.length k9 dC wr V9.obj
          rw [HC8.out.2.2.2.1] at hcd
          have HCD := Lib.hid hcd
          have hfl := flush_calm 2 gc mc dC 0 wr _ D9.out HC8.out.1 HC8.out.2.2.1 (by omega) (by rw [HC8.out.2.2.2.1, HC8.out.2.2.2.2]; simp)
          have HFL := Lib.hid hfl
          clear V9 hcd hfl
          go_wp2_with fail
          refine HCD.out.mono ?_
          rintro e w' ⟨rfl, rfl⟩
          go_wp2_with fail
          refine HFL.out.mono ?_
          rintro e w10 ⟨rfl, s10, -⟩
          have O10 := Lib.hid (O9.out.step s10 (by omega))
          clear s10
          go_wp2_with fail
          refine (awake_any w10).mono ?_
          rintro e w11 ⟨rfl, hb11⟩
          have HEND := Lib.hid (bel_then O10.out.below hb11)
          clear hb11
          go_wp2
          go_ret
          exact ⟨rfl, HEND.out⟩
theorem torn_main (a b wh at' : Int) (w : World) :
    Calls Try.prog 6 #[.int .i64 a, .int .i64 b, .int .i64 wh, .int .i64 at'] w fun e w' => e = .returned (.bool true) ∧ Below w.heap.size w w' := by
  by_cases h : 1 ≤ wh ∧ wh ≤ 1000 ∧ -1000 ≤ at' ∧ at' ≤ 1000
  · exact torn_walk a b wh at' w h.1 h.2.1 h.2.2.1 h.2.2.2
  · have hz : (decide (wh < 1) || (decide (1000 < wh) || (decide (at' < -1000) || (decide (1000 < at'))))) = true := by
      simp only [Bool.or_eq_true, decide_eq_true_eq]
      omega
    clear h
    cases h1 : decide (wh < 1) with
    | true =>
      clear hz
      go_enter Try.func6, Try.ntmps6
      go_wp2_with fail
      refine (awake_any w).mono ?_
      rintro e w1 ⟨rfl, hb⟩
      have HB := Lib.hid hb
      clear hb
      go_wp2
      go_ret
      exact ⟨rfl, HB.out⟩
    | false =>
      rw [h1, Bool.false_or] at hz
      cases h2 : decide (1000 < wh) with
      | true =>
        clear hz
        go_enter Try.func6, Try.ntmps6
        go_wp2_with fail
        refine (awake_any w).mono ?_
        rintro e w1 ⟨rfl, hb⟩
        have HB := Lib.hid hb
        clear hb
        go_wp2
        go_ret
        exact ⟨rfl, HB.out⟩
      | false =>
        rw [h2, Bool.false_or] at hz
        cases h3 : decide (at' < -1000) with
        | true =>
          clear hz
          go_enter Try.func6, Try.ntmps6
          go_wp2_with fail
          refine (awake_any w).mono ?_
          rintro e w1 ⟨rfl, hb⟩
          have HB := Lib.hid hb
          clear hb
          go_wp2
          go_ret
          exact ⟨rfl, HB.out⟩
        | false =>
          rw [h3, Bool.false_or] at hz
          go_enter Try.func6, Try.ntmps6
          go_wp2_with fail
          refine (awake_any w).mono ?_
          rintro e w1 ⟨rfl, hb⟩
          have HB := Lib.hid hb
          clear hb
          go_wp2
          go_ret
          exact ⟨rfl, HB.out⟩

end Go.Proofs.Ytdldclakkplliaa
