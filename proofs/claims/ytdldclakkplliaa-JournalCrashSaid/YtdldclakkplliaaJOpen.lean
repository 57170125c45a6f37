/- The walk of Open. Conditions: none. -/
import Derived.Test.YtdldclakkplliaaJReads
namespace Go.Proofs.Ytdldclakkplliaa
set_option linter.unusedVariables false
set_option linter.unusedSimpArgs false
open Go.RowKit

/-- Which half counts: the half, its number, its base. -/
def pickH (d : DK) : Nat → Nat × Nat × List UInt8
  | 0 => (0, 0, [])
  | k + 1 => match headsN (halfB d k) with
    | some (n, b) => if (pickH d k).2.1 < n then (k, n, b) else pickH d k
    | none => pickH d k
/-- What Open reads. -/
def Opens (d : DK) (j : JK) : Prop :=
  j.half = (pickH d 2).1 ∧ j.number = (pickH d 2).2.1 ∧ j.base.b = (pickH d 2).2.2 ∧ j.dead = false ∧ Pre (halfB d j.half) j.number 1 (64 + j.base.b.length) (j.recs.map (·.b)) j.endp ∧ j.endp ≤ d.n / 2 * 64 ∧
    recAt (halfB d j.half) j.number (1 + j.recs.length) j.endp = none
def OpenQ (idj gd : Nat) (d : DK) (w : World) (col : Nat → Nat) (e : Ending) (w' : World) : Prop :=
  ∃ gj j col', e = .returned (.tuple #[.pointer (some ⟨gj, 0, none⟩), .int .i64 0]) ∧ Path (Only idj) w col w' col' ∧ JAt w' col' idj gj gd j ∧ Opens d j
theorem headsN_some {H : List UInt8} {n : Nat} {b : List UInt8} (h : headsN H = some (n, b)) : b.length + 64 ≤ H.length ∧ n ≠ 0 ∧ n < 72057594037927936 := by
  unfold headsN at h
  split at h
  · cases h
  · rename_i h1
    split at h
    · cases h
    · rename_i h2
      split at h
      · cases h
      · split at h
        · cases h
        · simp only [Option.some.injEq, Prod.mk.injEq] at h
          obtain ⟨rfl, rfl⟩ := h
          refine ⟨?_, h2, ?_⟩
          · unfold headBase
            rw [cut_len (by omega)]
            omega
          · have := getN_lt ((H.drop 4).take 7)
            rw [cut_len (by omega)] at this
            unfold headNum
            omega
theorem halfB_len {d : DK} (half : Nat) (h : ∀ i, (vw d i).length = 64) : (halfB d half).length = d.n / 2 * 64 := by
  unfold halfB
  rw [halfK_len _ _ _ h]
  omega

theorem pick_zero (d : DK) (k : Nat) (h : (pickH d k).2.1 = 0) : pickH d k = (0, 0, []) := by
  induction k with
  | zero => rfl
  | succ k ih =>
    simp only [pickH] at h ⊢
    cases e : headsN (halfB d k) with
    | none => simp only [e] at h ⊢; exact ih h
    | some p =>
      obtain ⟨n, b⟩ := p
      have := headsN_some e
      simp only [e] at h ⊢
      split at h
      · simp at h; omega
      · rename_i h2
        rw [if_neg h2]
        exact ih h
set_option maxRecDepth 100000 in
set_option maxHeartbeats 16000000 in
theorem open_any (id idj gd mb : Nat) (d : DK) (w : World) (col : Nat → Nat) (h : DiskAt w col id gd mb d) (h0 : id ≠ 0) (hidj : idj ≠ 0) (hne : id ≠ idj) (hn : 8 ≤ d.n) (hcl : d.cache.length ≤ 1000000) :
    Calls Try.prog 15 #[.pointer (some ⟨gd, 0, none⟩)] w (OpenQ idj gd d w col) := by
  obtain ⟨v, hv⟩ := h
  have hdom := hv.dom.2
  have hvl := fun i : Nat => readB_len hv (i : Int)
  have HVL : Hid (∀ i, (vw d i).length = 64) := Lib.hid hvl
  obtain ⟨L, hL⟩ : ∃ L, L = d.n / 2 * 64 := ⟨_, rfl⟩
  have HLE := Lib.hid hL
  have hLb : L ≤ 10000000 ∧ 256 ≤ L := by omega
  obtain ⟨hL1, hL2⟩ := hLb
  have HV := Lib.hid hv
  have hge : ¬ (d.n : Int) < 8 := by omega
  clear hv hvl hL
  go_enter Try.func15, Try.ntmps15
  go_wp2_with fail
  refine (sectors_any gd mb v d w HV.out.obj).mono ?_
  rintro e w' ⟨rfl, rfl⟩
  obtain ⟨gj, hgj⟩ : ∃ g, g = w.heap.size := ⟨_, rfl⟩
  obtain ⟨W0, hW0⟩ : ∃ W, W = w.alloc (.cells #[.pointer (some ⟨gd, 0, none⟩), .int .i64 0, .int .i64 0, .slice none 0 0, .slice none 0 0, .int .i64 64, .bool false] 81) := ⟨_, rfl⟩
  have hb0 : Below w.heap.size w W0 := by rw [hW0]; exact bel_alloc (Below.refl _ _) _
  have hob : W0.heap[gj]? = some (.cells #[.pointer (some ⟨gd, 0, none⟩), .int .i64 0, .int .i64 0, .slice none 0 0, .slice none 0 0, .int .i64 64, .bool false] 81 (0, 0)) := by rw [hgj, hW0]; exact heap_alloc_new w _
  have st0 : Step idj w col W0 (paint w col (fun _ => idj)) := (Step.refl idj w col).grow hb0 _
  have J0 : Hid (JV W0 (paint w col (fun _ => idj)) idj gj gd (.slice none 0 0) ⟨0, 0, ⟨0, [], none, 0⟩, [], 64, false⟩) := Lib.hid ⟨by rw [hgj]; exact paint_new (Nat.le_refl _), hidj, hob, World.ownsRow_nil _ 0 22 1, fun k hk => by simp [Value.ownBlock] at hk, ⟨⟨Nat.le_refl _, fun _ => rfl⟩, RC.nil _ _ _ _⟩, fun s hs => by cases hs⟩
  have P0 : Hid (Path (Only idj) w col W0 (paint w col (fun _ => idj))) := Lib.hid (Path.step rfl .refl st0)
  have D0 : Hid (DiskV W0 (paint w col (fun _ => idj)) id gd mb v d) := Lib.hid (HV.out.step st0 (fun e => hne e.symm) hidj)
  generalize paint w col (fun _ => idj) = col0 at *
  clear hb0 hob st0 HV
  go_upto_region 5 with fail
  rw [← hW0, ← hgj]
  clear hW0 hgj
  go_wp2
  go_loopw [5, 6, 7, 8, 9, 10, 17] (fun u5 u6 u7 u8 u9 u10 u17 w' => ∃ (k : Nat) (half number : Nat) (bw : Wr) (colr : Nat → Nat), k ≤ 2 ∧ u17 = .int .i64 k ∧ half ≤ 1 ∧ number < 72057594037927936 ∧ Hid ((half, number, bw.b) = pickH d k) ∧ Hid (bw.b.length + 64 ≤ L) ∧ Hid (Path (Only idj) w col w' colr) ∧ Hid (DiskV w' colr id gd mb v d) ∧ Hid (JV w' colr idj gj gd (.slice none 0 0) ⟨half, number, bw, [], 64 + bw.b.length, false⟩) ∧
      Hid (number ≠ 0 → ∃ g c, u5 = .slice (some ⟨g, 0, none⟩) L c ∧ L ≤ c ∧ RC w' colr 0 (some ⟨g, 0, none⟩) (halfB d half))) (fun _ _ _ _ _ _ u17 _ => 2 - (intOf u17).toNat)
  case atStart => exact ⟨0, 0, 0, ⟨0, [], none, 0⟩, col0, by omega, rfl, by omega, by omega, Lib.hid rfl, Lib.hid (by simp; omega), P0, D0, J0, Lib.hid (fun h => absurd rfl h)⟩
  case round =>
    clear P0 D0 J0
    obtain ⟨k, half, number, bw, colr, hk, rfl, hh1, hnb, HPK, HBL, HP, HD, HJ, HU5⟩ := hrel
    by_cases hlt : k < 2
    · have hby := bytes_any id gd mb gj d _ _ k wr colr ⟨_, HD.out⟩ HJ.out.obj hcl (by omega)
      have HBY := Lib.hid hby
      clear hby
      go_wp2_with fail
      refine HBY.out.mono ?_
      rintro e w1 ⟨v1, rfl, ob1, hb1⟩
      have hHl := halfB_len k HVL.out
      rw [← HLE.out] at hHl
      obtain ⟨g1, cap1, e1, hg1, hcap1, -, -⟩ := ob1.form (by rw [hHl]; omega)
      rw [hHl] at e1 hcap1
      subst e1
      obtain ⟨A1, c1, e1, -, rb1⟩ := ob1.reads
      rw [hHl] at e1
      cases e1
      have D1 := Lib.hid (HD.out.grow hb1 (fun _ => 0))
      have J1 := Lib.hid (HJ.out.grow hb1 (fun _ => 0))
      have P1 := Lib.hid (HP.out.grow hb1)
      have R1 := Lib.hid (RC.new (col := colr) 0 rb1 (fun ad e => by cases e; exact hg1))
      have HU51 : Hid (number ≠ 0 → ∃ g c, u5 = .slice (some ⟨g, 0, none⟩) L c ∧ L ≤ c ∧ RC w1 (paint wr colr (fun _ => 0)) 0 (some ⟨g, 0, none⟩) (halfB d half)) := Lib.hid (fun h => by
        obtain ⟨g, c, h1, h2, h3⟩ := HU5.out h
        exact ⟨g, c, h1, h2, RC.path h3 (Path.grow (J := Only idj) .refl hb1) (fun i hi => by rw [show i = idj from hi]; exact hidj)⟩)
      have hhd := heads_any gd mb gj g1 cap1 L d v _ _ (halfB d k) w1 J1.out.obj D1.out.obj ⟨hn, hdom⟩ R1.out.read hHl.symm HLE.out hcap1
      have HHD := Lib.hid hhd
      have HCAP := Lib.hid hcap1
      clear ob1 hb1 rb1 hhd hHl HBY HD HJ HP HU5
      go_wp2_with fail
      refine HHD.out.mono ?_
      rintro e w2 ⟨hb2, hq⟩
      have D2 := Lib.hid (D1.out.grow hb2 (fun _ => 0))
      have J2 := Lib.hid (J1.out.grow hb2 (fun _ => 0))
      have P2 := Lib.hid (P1.out.grow hb2)
      have hpg : Path (Only idj) w1 (paint wr colr (fun _ => 0)) w2 (paint w1 (paint wr colr (fun _ => 0)) (fun _ => 0)) := Path.grow (J := Only idj) .refl hb2
      have HON : Hid (∀ i, Only idj i → i ≠ 0) := Lib.hid (fun i hi => by rw [show i = idj from hi]; exact hidj)
      have R2 := Lib.hid (RC.path R1.out hpg HON.out)
      have HU52 : Hid (number ≠ 0 → ∃ g c, u5 = .slice (some ⟨g, 0, none⟩) L c ∧ L ≤ c ∧ RC w2 (paint w1 (paint wr colr (fun _ => 0)) (fun _ => 0)) 0 (some ⟨g, 0, none⟩) (halfB d half)) := Lib.hid (fun h => by
        obtain ⟨g, c, h1, h2, h3⟩ := HU51.out h
        exact ⟨g, c, h1, h2, RC.path h3 hpg HON.out⟩)
      have c22 : w2.cell? ⟨gj, 2, none⟩ = some (.int .i64 (number : Int)) := by rw [cell_of_row _ _ 2 _ _ _ J2.out.obj]; rfl
      clear hb2 hpg D1 J1 P1 R1 HU51 HHD
      rcases hq with ⟨hnone, rfl⟩ | ⟨num, base, A3, c3, hsome, rfl, sv3, rb3⟩
      · have HPK2 : Hid ((half, number, bw.b) = pickH d (k + 1)) := Lib.hid (by simp only [pickH]; rw [hnone]; exact HPK.out)
        clear hnone
        go_wp2
        go_roundw
        case rel => exact ⟨k + 1, half, number, bw, _, by omega, by go_num, hh1, hnb, HPK2, HBL, P2, D2, J2, HU52⟩
        case measure => simp [intOf]; omega
      · obtain ⟨hs1, hs2, hs3⟩ := headsN_some hsome
        rw [halfB_len k HVL.out, ← HLE.out] at hs1
        by_cases hgt : number < num
        · have HPK2 : Hid ((k, num, base) = pickH d (k + 1)) := Lib.hid (by simp only [pickH]; rw [hsome, ← HPK.out]; exact (if_pos hgt).symm)
          obtain ⟨bl, hbl⟩ : ∃ l, l = base.length := ⟨_, rfl⟩
          rw [← hbl] at sv3 hs1 ⊢
          have HBL3 := Lib.hid hbl
          have hcln := clone_at A3 c3 bl base w2 hbl rb3 (by rw [← hbl]; exact sv3) (by rw [← hbl]; omega)
          have HCLN := Lib.hid hcln
          have hgtb : (number : Int) < (num : Int) := by omega
          clear hsome rb3 sv3 hcln hbl hgt
          go_wp2_with fail
          refine HCLN.out.mono ?_
          rintro e w4 ⟨v4, rfl, ob4, hb4⟩
          obtain ⟨A4, c4, e4, sv4, rb4⟩ := ob4.reads
          have hfr4 : ∀ ad, A4 = some ad → w2.heap.size ≤ ad.block := fun ad e => ob4.base_ ad.block (by rw [e4, e]; rfl)
          have svb := sv4
          rw [← HBL3.out] at e4 sv4
          subst e4
          have D4 := D2.out.grow hb4 (fun _ => 0)
          have J4 := J2.out.grow hb4 (fun _ => 0)
          have hpg : Path (Only idj) w2 (paint w1 (paint wr colr (fun _ => 0)) (fun _ => 0)) w4 (paint w2 (paint w1 (paint wr colr (fun _ => 0)) (fun _ => 0)) (fun _ => 0)) := Path.grow (J := Only idj) .refl hb4
          have P4 := P2.out.trans hpg
          have R4 := RC.path R2.out hpg HON.out
          have S4 : Sl w4 (paint w2 (paint w1 (paint wr colr (fun _ => 0)) (fun _ => 0)) (fun _ => 0)) ⟨0, base, A4, c4⟩ := ⟨svb, RC.new 0 rb4 hfr4⟩
          have q1 := row_set (j := 1) (.int .i64 (k : Int)) J4.obj
          have q2 := row_set (j := 2) (.int .i64 (num : Int)) q1
          have q3 := row_set (j := 3) (.slice A4 bl c4) q2
          have q5 := row_set (j := 5) (.int .i64 ((64 + bl : Nat) : Int)) q3
          have z1 := frozen_of_row _ _ 1 _ _ J4.obj
          have z2 := frozen_of_row _ _ 2 _ _ q1
          have z3 := frozen_of_row _ _ 3 _ _ q2
          have z5 := frozen_of_row _ _ 5 _ _ q3
          have y1 : w4.cell? ⟨gj, 1, none⟩ = some (.int .i64 (half : Int)) := by rw [cell_of_row _ _ 1 _ _ _ J4.obj]; rfl
          have y2 : (w4.setCell ⟨gj, 1, none⟩ (.int .i64 (k : Int))).cell? ⟨gj, 2, none⟩ = some (.int .i64 (number : Int)) := by rw [cell_of_row _ _ 2 _ _ _ q1]; rfl
          have y3 : ((w4.setCell ⟨gj, 1, none⟩ (.int .i64 (k : Int))).setCell ⟨gj, 2, none⟩ (.int .i64 (num : Int))).cell? ⟨gj, 3, none⟩ = some (.slice bw.A bw.b.length bw.c) := by rw [cell_of_row _ _ 3 _ _ _ q2]; rfl
          have y5 : (((w4.setCell ⟨gj, 1, none⟩ (.int .i64 (k : Int))).setCell ⟨gj, 2, none⟩ (.int .i64 (num : Int))).setCell ⟨gj, 3, none⟩ (.slice A4 bl c4)).cell? ⟨gj, 5, none⟩ = some (.int .i64 ((64 + bw.b.length : Nat) : Int)) := by rw [cell_of_row _ _ 5 _ _ _ q3]; rfl
          have hk4 := keeps_set (j := 5) (u := .int .i64 ((64 + bl : Nat) : Int)) (keeps_set (j := 3) (u := .slice A4 bl c4) (keeps_set (j := 2) (u := .int .i64 (num : Int)) (keeps_set (j := 1) (u := .int .i64 (k : Int)) (Keeps.refl (fun i => i = gj) w4) rfl) rfl) rfl) rfl
          obtain ⟨st5, J5⟩ := J4.put (j' := ⟨k, num, ⟨0, base, A4, c4⟩, [], 64 + bl, false⟩) hk4 (by rw [HBL3.out] at q5 ⊢; exact q5) rfl S4
          rw [show ((64 + bl : Nat) : Int) = 64 + (bl : Int) by omega] at st5 J5
          have HEND := Lib.hid (And.intro (Path.step (J := Only idj) rfl P4 st5) (And.intro (D4.step st5 (fun e => hne e.symm) hidj) (And.intro J5 (R4.step st5 hidj))))
          clear ob4 hb4 sv4 svb rb4 hfr4 D4 J4 hpg P4 R4 S4 q1 q2 q3 q5 hk4 st5 J5 c22
          go_wp2
          go_roundw
          case rel => exact ⟨k + 1, k, num, ⟨0, base, A4, c4⟩, _, by omega, by go_num, by omega, hs3, HPK2, Lib.hid (by rw [← HBL3.out]; exact hs1), Lib.hid HEND.out.1, Lib.hid HEND.out.2.1, Lib.hid (by have := HEND.out.2.2.1; rw [HBL3.out] at this ⊢; exact this), Lib.hid (fun _ => ⟨g1, cap1, rfl, HCAP.out, HEND.out.2.2.2⟩)⟩
          case measure => simp [intOf]; omega
        · have HPK2 : Hid ((half, number, bw.b) = pickH d (k + 1)) := Lib.hid (by simp only [pickH]; rw [hsome, ← HPK.out]; exact (if_neg hgt).symm)
          have hgtb : ¬ (number : Int) < (num : Int) := by omega
          clear hsome rb3 sv3 hgt
          go_wp2
          go_roundw
          case rel => exact ⟨k + 1, half, number, bw, _, by omega, by go_num, hh1, hnb, HPK2, HBL, P2, D2, J2, HU52⟩
          case measure => simp [intOf]; omega
    · obtain rfl : k = 2 := by omega
      have c2 : wr.cell? ⟨gj, 2, none⟩ = some (.int .i64 (number : Int)) := by rw [cell_of_row _ _ 2 _ _ _ HJ.out.obj]; rfl
      go_upto_if 64 with fail
      go_cut [5] (fun s5 wx => ∃ g c colx, s5 = .slice (some ⟨g, 0, none⟩) L c ∧ L ≤ c ∧ Hid (RC wx colx 0 (some ⟨g, 0, none⟩) (halfB d half)) ∧ Hid (Path (Only idj) w col wx colx) ∧ Hid (JV wx colx idj gj gd (.slice none 0 0) ⟨half, number, bw, [], 64 + bw.b.length, false⟩))
      case first =>
        by_cases hz : number = 0
        · subst hz
          have hhz : half = 0 := by
            have h1 := pick_zero d 2 (by rw [← HPK.out])
            rw [← HPK.out] at h1
            exact congrArg Prod.fst h1
          have hby := bytes_any id gd mb gj d _ _ 0 wr colr ⟨_, HD.out⟩ HJ.out.obj hcl (by omega)
          have HBY := Lib.hid hby
          have HHZ := Lib.hid hhz
          clear hby hhz
          go_wp2_with fail
          refine HBY.out.mono ?_
          rintro e w1 ⟨v1, rfl, ob1, hb1⟩
          have hHl := halfB_len 0 HVL.out
          rw [← HLE.out] at hHl
          obtain ⟨g1, cap1, e1, hg1, hcap1, -, -⟩ := ob1.form (by rw [hHl]; omega)
          rw [hHl] at e1 hcap1
          subst e1
          obtain ⟨A1, c1, e1, -, rb1⟩ := ob1.reads
          rw [hHl] at e1
          cases e1
          have J1 := Lib.hid (HJ.out.grow hb1 (fun _ => 0))
          have P1 := Lib.hid (HP.out.grow hb1)
          have R1 := Lib.hid (RC.new (col := colr) 0 rb1 (fun ad e => by cases e; exact hg1))
          clear ob1 hb1 rb1 hHl
          go_wp2
          go_meet
          exact ⟨g1, cap1, _, rfl, hcap1, Lib.hid (by rw [HHZ.out]; exact R1.out), P1, J1⟩
        · obtain ⟨g5, c5', e5, hc5, hr5⟩ := HU5.out hz
          subst e5
          have hzb : ((number : Int) == 0) = false := by simp; omega
          have HR5 := Lib.hid hr5
          clear hz hr5
          go_wp2
          go_meet
          exact ⟨g5, c5', colr, rfl, hc5, HR5, HP, HJ⟩
      case rest =>
        obtain ⟨g5, c5', colx, rfl, hc5, HR5, HP5, HJ5⟩ := hcut
        have hHl := halfB_len half HVL.out
        rw [← HLE.out] at hHl
        have hrd := reads_any idj gj gd g5 c5' L ⟨half, number, bw, [], 64 + bw.b.length, false⟩ (halfB d half) wc colx ⟨_, HJ5.out⟩ hidj HR5.out hHl.symm hL1 hc5 (by have := HBL.out; show 64 + bw.b.length ≤ L; omega) (by show number < _; omega) (by simp)
        have HRD := Lib.hid hrd
        have HHL := Lib.hid hHl
        clear hrd hHl c2
        go_wp2_with fail
        refine HRD.out.mono ?_
        rintro e w6 ⟨rfl, rs, e6, c6, p6, j6, pre6, le6, -, none6⟩
        have P6 := Lib.hid (HP5.out.trans p6)
        have J6 := Lib.hid j6
        have HOP : Hid (Opens d ⟨half, number, bw, rs, e6, false⟩) := Lib.hid (by
          have hpk := HPK.out
          refine ⟨by rw [← hpk], by rw [← hpk], by rw [← hpk], rfl, pre6, by rw [HHL.out, HLE.out] at le6; exact le6, none6 rfl⟩)
        clear p6 j6 pre6 le6 none6
        go_wp2
        go_ret2
        exact ⟨gj, _, c6, rfl, P6.out, by have := J6.out; simp only [List.nil_append] at this; exact this, HOP.out⟩
end Go.Proofs.Ytdldclakkplliaa
