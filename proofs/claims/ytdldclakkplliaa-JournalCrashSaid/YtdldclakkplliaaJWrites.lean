/- The walk of writes. Conditions: none. -/
import Derived.Test.YtdldclakkplliaaJBlank
namespace Go.Proofs.Ytdldclakkplliaa
set_option linter.unusedVariables false
set_option linter.unusedSimpArgs false
open Go.RowKit

theorem JAt.path {J : Nat → Prop} {w w' : World} {col col' : Nat → Nat} {id gj gd : Nat} {j : JK} (h : JAt w col id gj gd j) (p : Path J w col w' col') (hJ : ∀ i, J i → i ≠ 0 ∧ i ≠ id) : JAt w' col' id gj gd j := by
  induction p with
  | refl => exact h
  | step hj _ s ih => exact ih.step s (hJ _ hj).2 (hJ _ hj).1
  | grow _ hb ih => exact ih.grow hb _
theorem RC.path {J : Nat → Prop} {w w' : World} {col col' : Nat → Nat} {c : Nat} {A : Option Addr} {b : List UInt8} (h : RC w col c A b) (p : Path J w col w' col') (hJ : ∀ i, J i → i ≠ c) : RC w' col' c A b := by
  induction p with
  | refl => exact h
  | step hj _ s ih => exact ih.step s (hJ _ hj)
  | grow _ hb ih =>
    rename_i w1 w2 c1 _
    exact ⟨ih.read.below hb, fun hp ad e => (paint_old (ih.read.lt hp ad e)).trans (ih.at_ hp ad e)⟩
/-- A sector of bytes, noughts behind them. -/
def chunkB (F : List UInt8) (k : Nat) : List UInt8 := (F.drop (64 * k)).take 64 ++ List.replicate (64 - (F.drop (64 * k)).length) 0
theorem chunkB_len (F : List UInt8) (k : Nat) : (chunkB F k).length = 64 := by
  unfold chunkB
  rw [List.length_append, List.length_take, List.length_replicate]
  omega
def chunksSh (S0 : Nat) (F : List UInt8) : List (Option (Int × List UInt8)) := (List.range ((F.length + 63) / 64)).map fun k => some (((S0 + k : Nat) : Int), chunkB F k)
theorem chunksSh_take (S0 : Nat) (F : List UInt8) (k : Nat) (h : k < (F.length + 63) / 64) : (chunksSh S0 F).take (k + 1) = (chunksSh S0 F).take k ++ [some (((S0 + k : Nat) : Int), chunkB F k)] := by
  rw [List.take_add_one]
  congr 1
  unfold chunksSh
  rw [List.getElem?_map, List.getElem?_range h]
  rfl
theorem chunksSh_len (S0 : Nat) (F : List UInt8) : (chunksSh S0 F).length = (F.length + 63) / 64 := by simp [chunksSh]
/-- What writes does to the disk. -/
def fullB (d : DK) (half at' : Nat) (b : List UInt8) : List UInt8 := (readB d ((half * (d.n / 2) + at' / 64 : Nat) : Int)).take (at' % 64) ++ b
def writesSh (d : DK) (half at' : Nat) (b : List UInt8) : List (Option (Int × List UInt8)) :=
  blankSh d half (at' / 64 + ((fullB d half at' b).length + 63) / 64) ++ (chunksSh (half * (d.n / 2) + at' / 64) (fullB d half at' b) ++ [none])
theorem blankSh_len (d : DK) (half i : Nat) : (blankSh d half i).length ≤ 2 := by
  unfold blankSh
  split
  · simp
  · split <;> simp

set_option maxRecDepth 100000 in
set_option maxHeartbeats 8000000 in
theorem writes_any (id idj gd mb gj : Nat) (d : DK) (j : JK) (half at' a : Nat) (A : Option Addr) (c : Nat) (b : List UInt8) (w : World) (col : Nat → Nat) (h : DiskAt w col id gd mb d) (hj : JAt w col idj gj gd j) (h0 : id ≠ 0) (hne : id ≠ idj) (hr : RB w A b) (hsv : SV A b.length c) (hf : d.fits a) (ha : a ≤ 800000) (hm : d.m + d.cache.length ≤ a) (hh : half ≤ 1)
    (hq : at' / 64 < d.n / 2) (hfit : at' + b.length ≤ d.n / 2 * 64) :
    Calls Try.prog 52 #[.pointer (some ⟨gj, 0, none⟩), .int .i64 half, .int .i64 at', .slice A b.length c] w (ActQ id gd mb d (writesSh d half at' b) w col) := by
  obtain ⟨vr, hj⟩ := hj
  obtain ⟨v, hv⟩ := h
  have hdom := hv.dom
  obtain ⟨sh, hsh⟩ : ∃ sh, sh = writesSh d half at' b := ⟨_, rfl⟩
  rw [← hsh]
  unfold writesSh at hsh
  obtain ⟨F, hF⟩ : ∃ F, F = fullB d half at' b := ⟨_, rfl⟩
  rw [← hF] at hsh
  unfold fullB at hF
  obtain ⟨N2, hN2⟩ : ∃ N, N = d.n / 2 := ⟨_, rfl⟩
  obtain ⟨H, hH⟩ : ∃ H, H = half * N2 := ⟨_, rfl⟩
  obtain ⟨q, hqq⟩ : ∃ q, q = at' / 64 := ⟨_, rfl⟩
  obtain ⟨o, ho⟩ : ∃ o, o = at' % 64 := ⟨_, rfl⟩
  rw [← hN2, ← hH, ← hqq] at hsh
  rw [← hN2, ← hH, ← hqq, ← ho] at hF
  rw [← hN2, ← hqq] at hq
  rw [← hN2] at hfit
  have hHb : H + N2 ≤ d.n := by
    rcases (by omega : half = 0 ∨ half = 1) with e | e
    · rw [e] at hH; omega
    · rw [e] at hH; omega
  have hS64 := readB_len hv ((H + q : Nat) : Int)
  obtain ⟨S0, hS0⟩ : ∃ S, S = readB d ((H + q : Nat) : Int) := ⟨_, rfl⟩
  rw [← hS0] at hF hS64
  have ho64 : o < 64 := by omega
  obtain ⟨bl, hbl⟩ : ∃ l, l = b.length := ⟨_, rfl⟩
  obtain ⟨FL, hFL⟩ : ∃ l, l = F.length := ⟨_, rfl⟩
  have hFLo : FL = o + bl := by rw [hFL, hF, List.length_append, List.length_take, hS64, hbl]; omega
  obtain ⟨M, hM⟩ : ∃ M, M = (FL + 63) / 64 := ⟨_, rfl⟩
  rw [← hFL, ← hM] at hsh
  rw [← hbl] at hsv hfit ⊢
  have hMq : q + M ≤ N2 := by omega
  have t1 : (d.n : Int).tdiv 2 = (N2 : Int) := by rw [Int.tdiv_eq_ediv_of_nonneg (by omega)]; omega
  have t2 : (half : Int) * (N2 : Int) = (H : Int) := by rw [hH]; push_cast; rfl
  have t3 : (at' : Int).tdiv 64 = (q : Int) := by rw [Int.tdiv_eq_ediv_of_nonneg (by omega)]; omega
  have t4 : (at' : Int).tmod 64 = (o : Int) := by rw [Int.tmod_eq_emod_of_nonneg (by omega)]; omega
  have t5 : ((FL : Int) + 64 - 1).tdiv 64 = (M : Int) := by rw [Int.tdiv_eq_ediv_of_nonneg (by omega)]; omega
  have t6 : ((FL : Int) + 63).tdiv 64 = (M : Int) := by rw [Int.tdiv_eq_ediv_of_nonneg (by omega)]; omega
  have hn2 : N2 ≤ 65536 := by omega
  have hFb : FL ≤ 10000000 := by omega
  have hdomn := hdom.2
  have HV := Lib.hid hv
  have HJ := Lib.hid hj
  have c0 := hj.c0
  have HSH := Lib.hid hsh
  have HFF := Lib.hid hF
  have HFL := Lib.hid hFL
  have HMM := Lib.hid hM
  have HBL := Lib.hid hbl
  have HS64 := Lib.hid hS64
  have HR := Lib.hid hr
  have HSV := Lib.hid hsv
  have HFM := Lib.hid (And.intro hf hm)
  have HFLO := Lib.hid hFLo
  have hcl1 : d.cache.length ≤ 1000000 := by omega
  have hHq : 0 ≤ ((H + q : Nat) : Int) ∧ ((H + q : Nat) : Int) < d.n := ⟨by omega, by omega⟩
  have hrd := read_use id gd mb d ((H + q : Nat) : Int) w col ⟨_, hv⟩ hHq hcl1 S0 hS0.symm
  rw [show ((H + q : Nat) : Int) = (H : Int) + (q : Int) by omega] at hrd
  have HRD := Lib.hid hrd
  clear hsh hf hm hv hj hN2 hH hqq ho hS0 hbl hFL hM hr hsv hF hS64 hFLo hrd hHq
  go_enter Try.func52, Try.ntmps52
  go_wp2_with fail
  refine (sectors_any gd mb v d w HV.out.obj).mono ?_
  rintro e w' ⟨rfl, rfl⟩
  go_wp2_with fail
  refine HRD.out.mono ?_
  rintro e w1 ⟨A1, c1, rfl, sv1, rb1, -, hb1⟩
  have HB1 := Lib.hid hb1
  have RB1 := Lib.hid rb1
  have SV1 := Lib.hid sv1
  have ho1 : o ≤ c1 := by have := sv1.1; omega
  have hcat : RL (w1.alloc (.cells #[.slice A1 o c1, .slice A bl c] 22)) (some ⟨w1.heap.size, 0, none⟩) [S0.take o, b] := by
    have hl1 : (S0.take o).length = o := by rw [List.length_take, HS64.out]; omega
    have hr1 : RB w1 A1 (S0.take o) := by
      have h1 := rb1.cut (A' := A1) 0 o (by rw [HS64.out]; omega) (fun _ ad e => by rw [e]; unfold Addr.add; simp)
      rw [List.drop_zero] at h1
      exact h1
    have h2 := RL.two 22 hr1 (c := c1) (show SV A1 (S0.take o).length c1 from ⟨by rw [hl1]; omega, sv1.2⟩) (HR.out.below hb1) (c2 := c) (by rw [← HBL.out]; exact HSV.out) (n := w1.heap.size) rfl
    rw [hl1, ← HBL.out] at h2
    exact h2
  have hcc := concat_any (some ⟨w1.heap.size, 0, none⟩) 2 [S0.take o, b] _ hcat (by simp) (by simp [HS64.out, ← HBL.out]; omega)
  have HCC := Lib.hid hcc
  clear hb1 rb1 sv1 hcat hcc
  go_wp2_with fail
  refine HCC.out.mono ?_
  rintro e w2 ⟨v2, rfl, ob2, hb2⟩
  have hflat : [S0.take o, b].flatten = F := by rw [HFF.out]; simp
  rw [hflat] at ob2
  obtain ⟨AF, cF, e2, svF, rbF⟩ := ob2.reads
  rw [← HFL.out] at e2 svF
  subst e2
  have hbw2 : Below w.heap.size w w2 := bel_then HB1.out (bel_then (bel_alloc (Below.refl w1.heap.size w1) _) hb2)
  have D2 : Hid (DiskAt w2 (paint w col (fun _ => 0)) id gd mb d) := Lib.hid ⟨_, HV.out.grow hbw2 (fun _ => 0)⟩
  have J2 : Hid (JAt w2 (paint w col (fun _ => 0)) idj gj gd j) := Lib.hid ⟨_, HJ.out.grow hbw2 (fun _ => 0)⟩
  have RF2 : Hid (RC w2 (paint w col (fun _ => 0)) 0 AF F) := Lib.hid (RC.new 0 rbF (fun ad e => by
    have h1 := ob2.base_ ad.block (by rw [e]; rfl)
    have h2 := HB1.out.size
    simp at h1
    omega))
  have SVF := Lib.hid svF
  have P2 : Hid (Path (Only id) w col w2 (paint w col (fun _ => 0))) := Lib.hid (.grow .refl hbw2)
  have hbk := blank_any id idj gd mb gj d j half (q + M) a w2 _ D2.out J2.out h0 hne HFM.out.1 (by omega) HFM.out.2 hh (by omega)
  rw [show ((q + M : Nat) : Int) = (q : Int) + (M : Int) by omega] at hbk
  have HBK := Lib.hid hbk
  clear ob2 svF rbF hbw2 hb2 hflat hbk c0 ho1
  go_wp2_with fail
  refine HBK.out.mono ?_
  rintro e w3 ⟨x3, d3, c3, rfl, p3, hd3, ac3⟩
  have P3 := Lib.hid (P2.out.trans p3)
  have hJ3 : ∀ i, Only id i → i ≠ 0 ∧ i ≠ idj := fun i hi => by rw [show i = id from hi]; exact ⟨h0, hne⟩
  have J3 := Lib.hid (J2.out.path p3 hJ3)
  have RF3 := Lib.hid (RF2.out.path p3 (fun i hi => (hJ3 i hi).1))
  have D3 := Lib.hid hd3
  have AC3 := Lib.hid ac3
  obtain ⟨shB, hshB⟩ : ∃ s, s = blankSh d half (q + M) := ⟨_, rfl⟩
  have HSB2 : Hid (shB.length ≤ 2) := Lib.hid (by rw [hshB]; exact blankSh_len _ _ _)
  have HSHE : Hid (sh = shB ++ (chunksSh (H + q) F ++ [none])) := Lib.hid (by rw [HSH.out, hshB])
  rw [← hshB] at AC3
  have HJJ := Lib.hid hJ3
  clear p3 hd3 ac3 hJ3 hshB HSH
  by_cases hx : x3 = 0
  · subst hx
    go_wp2
    go_loopw [14, 15, 16] (fun u14 u15 u16 w' => ∃ (k p : Nat) (d' : DK) (col' : Nat → Nat), k ≤ M ∧ p = 64 * k ∧ u14 = .int .i64 p ∧ Hid (Path (Only id) w col w' col') ∧ Hid (DiskAt w' col' id gd mb d') ∧ Hid (JAt w' col' idj gj gd j) ∧ Hid (RC w' col' 0 AF F) ∧ Hid (Acts d (shB ++ (chunksSh (H + q) F).take k) d' 0)) (fun u14 _ _ _ => 64 * M - (intOf u14).toNat)
    case atStart => exact ⟨0, 0, d3, c3, by omega, rfl, rfl, P3, D3, J3, RF3, Lib.hid (by rw [List.take_zero, List.append_nil]; exact AC3.out)⟩
    case round =>
      clear P3 D3 J3 RF3 AC3
      obtain ⟨k, p, d', colr, hk, hp, rfl, HP, HD, HJ', HRF, HAC⟩ := hrel
      have HPK := Lib.hid hp
      have hmo := HAC.out.more HFM.out.1 HFM.out.2
      have hlen : (shB ++ (chunksSh (H + q) F).take k).length ≤ 2 + k := by
        rw [List.length_append, List.length_take]
        have := HSB2.out
        omega
      have hMb : M ≤ 200000 := by have := HMM.out; omega
      have HMO : Hid (d'.fits (a + 2 + k) ∧ d'.m + d'.cache.length ≤ a + 2 + k ∧ d'.n = d.n) := Lib.hid ⟨DiskAt.fits' hmo.1 (by omega), by omega, hmo.2.2⟩
      obtain ⟨vrr, hjv⟩ := HJ'.out
      have c0 := hjv.c0
      clear hmo hlen hjv
      by_cases hlt : k < M
      · have hpF : p < FL := by have := HMM.out; omega
        have hpb : decide ((p : Int) < (FL : Int)) = true := by simp; omega
        have tp : (p : Int).tdiv 64 = (k : Int) := by rw [Int.tdiv_eq_ediv_of_nonneg (by omega)]; omega
        obtain ⟨adF, hAF⟩ : ∃ ad, AF = some ad := by
          cases e : AF with
          | none => have h1 := SVF.out.2 e; have h2 := SVF.out.1; omega
          | some ad => exact ⟨ad, rfl⟩
        have hcp : ¬ cF = p := by have := SVF.out.1; omega
        have hcp2 : p ≤ cF := by have := SVF.out.1; omega
        have hcut := fun {X : World} (hX : RB X AF F) => hX.cut (A' := some (adF.add p)) p (FL - p) (by rw [← HFL.out]; omega) (fun _ ad e => by rw [hAF] at e; cases e; rfl)
        have hdl : ((F.drop p).take (FL - p)) = F.drop p := List.take_of_length_le (by rw [List.length_drop, ← HFL.out]; omega)
        rw [hdl] at hcut
        have hyl : (F.drop p).length = FL - p := by rw [List.length_drop, ← HFL.out]
        have HCUT := Lib.hid (fun (X : World) (hX : RB X AF F) => hcut hX)
        have HYL := Lib.hid hyl
        have HAF := Lib.hid hAF
        rw [hAF]
        have HLT := Lib.hid hlt
        clear hp hcut hdl hyl hAF hlt
        go_wp2_with (first | (at_make; go_loud (refine wp_make rfl _ _ 22 5 rfl Try.underlying22 info5 _ _ 64 rfl rfl (by omega) ?_); intro w5 ho hb; obtain ⟨w6, hrun, ho6, hg6⟩ := copy_run (o := 0) (dc := 64) (sc := cF - p) ho (HCUT.out _ (HRF.out.read.below hb)) (Nat.zero_le _) (Nat.min (F.drop p).length (64 - 0)) rfl; rw [HYL.out] at hrun ho6; have HO6 := Lib.hid ho6; have HB6 := Lib.hid (bel_grown hb hg6 (fun i e => by cases e; exact Nat.le_refl _)); have c06 : w6.cell? ⟨gj, 0, none⟩ = some (.pointer (some ⟨gd, 0, none⟩)) := (HB6.out.cell (World.block_lt_of_cell? _ _ c0)).trans c0; clear ho hb ho6 hg6) | fail)
        have hfc : List.take 0 (List.replicate 64 (0 : UInt8)) ++ (F.drop p).take (Nat.min (FL - p) (64 - 0)) ++ (List.replicate 64 (0 : UInt8)).drop (0 + Nat.min (FL - p) (64 - 0)) = chunkB F k := by
          unfold chunkB
          rw [← HPK.out, HYL.out, List.take_zero, List.nil_append, Nat.zero_add, List.drop_replicate]
          rcases Nat.le_total (FL - p) 64 with hle | hle
          · have e1 : Nat.min (FL - p) (64 - 0) = FL - p := Nat.min_eq_left (by omega)
            rw [e1, List.take_of_length_le (by rw [HYL.out]; omega), List.take_of_length_le (by rw [HYL.out]; exact hle)]
          · have e1 : Nat.min (FL - p) (64 - 0) = 64 := Nat.min_eq_right (by omega)
            rw [e1, show 64 - (FL - p) = 64 - 64 by omega]
        have ho6 := HO6.out
        rw [hfc] at ho6
        obtain ⟨A6, c6, e6, sv6, rb6⟩ := ho6.reads
        rw [chunkB_len] at e6 sv6
        cases e6
        have D6 := Lib.hid (HD.out.grow HB6.out (fun _ => 0))
        have J6 := Lib.hid (HJ'.out.grow HB6.out (fun _ => 0))
        have RF6 := Lib.hid (RC.path HRF.out (Path.grow (J := Only id) .refl HB6.out) (fun i hi => by rw [show i = id from hi]; exact h0))
        have R6 := Lib.hid (RC.new (col := colr) 0 rb6 (fun ad e => by cases e; exact Nat.le_refl _))
        have SV6 := Lib.hid sv6
        have P6 := Lib.hid (HP.out.grow HB6.out)
        have HIN : Hid (0 ≤ (H : Int) + (q : Int) + (k : Int) ∧ (H : Int) + (q : Int) + (k : Int) < d'.n) := Lib.hid ⟨by omega, by have := HLT.out; rw [HMO.out.2.2]; omega⟩
        have hwe := writeE_in HIN.out
        have hwr := write_64 id gd mb d' (a + 2 + k) ((H : Int) + (q : Int) + (k : Int)) (some ⟨wr.heap.size, 0, none⟩) 64 0 (chunkB F k) w6 _ D6.out HMO.out.1 (by omega) R6.out h0.symm SV6.out (chunkB_len _ _)
        rw [hwe] at hwr
        refine hwr.mono ?_
        clear hwr hfc ho6 sv6 rb6 c06 hwe
        rintro e w7 ⟨rfl, c7, A7, k7, st7, hd7⟩
        have hIq : (H : Int) + (q : Int) + (k : Int) = ((H + q + k : Nat) : Int) := by omega
        rw [hIq] at hd7
        have P7 := Lib.hid (Path.step (J := Only id) rfl P6.out st7)
        have J7 := Lib.hid (J6.out.step st7 hne h0)
        have RF7 := Lib.hid (RF6.out.step st7 h0)
        have D7 := Lib.hid hd7
        have HAW : Hid (Acts d' [some (((H + q + k : Nat) : Int), chunkB F k)] (writeD d' ⟨((H + q + k : Nat) : Int), chunkB F k, A7, k7⟩) (askedK d').2) := Lib.hid (by
          have := Acts.write' (d := d') (i := ((H + q + k : Nat) : Int)) (b := chunkB F k) A7 k7
          rw [chunkB_len, writeE_in (by rw [← hIq]; exact HIN.out)] at this
          exact this)
        have htk := chunksSh_take (H + q) F k (by rw [← HFL.out, ← HMM.out]; exact HLT.out)
        have HTK := Lib.hid htk
        clear hIq st7 hd7 htk
        rcases asked_e d' with he | he
        · rw [he] at HAW ⊢
          clear he
          go_wp2
          go_roundw
          case rel =>
            refine ⟨k + 1, p + 64, _, c7, HLT.out, by have := HPK.out; omega, int_eq (by omega), P7, D7, J7, by rw [← HAF.out]; exact RF7, Lib.hid ?_⟩
            rw [HTK.out, ← List.append_assoc]
            exact HAC.out.then HAW.out
          case measure => have := HLT.out; have := HPK.out; simp [intOf]; omega
        · rw [he] at HAW ⊢
          clear he
          go_wp2
          go_ret
          refine ⟨7, _, c7, rfl, P7.out, D7.out, ?_⟩
          rw [HSHE.out]
          have h1 := HAC.out.then HAW.out
          rw [List.append_assoc, ← HTK.out] at h1
          have h2 := h1.stop ((chunksSh (H + q) F).drop (k + 1) ++ [none]) (by decide)
          rw [List.append_assoc, ← List.append_assoc _ _ [none], List.take_append_drop] at h2
          exact h2
      · obtain rfl : k = M := by omega
        have hpF : ¬ p < FL := by have := HMM.out; omega
        clear hp hlt
        go_wp2_with fail
        refine (flush_any id gd mb d' (a + 2 + k) wr colr HD.out HMO.out.1 (by omega) (by have := HMO.out.2.1; omega)).mono ?_
        rintro e w8 ⟨rfl, st8, hd8⟩
        have P8 := Lib.hid (Path.step (J := Only id) rfl HP.out st8)
        have D8 := Lib.hid hd8
        clear st8 hd8 c0
        go_wp2
        go_ret
        refine ⟨_, _, colr, rfl, P8.out, D8.out, ?_⟩
        rw [HSHE.out, ← List.append_assoc]
        have h1 := HAC.out
        rw [List.take_of_length_le (by rw [chunksSh_len, ← HFL.out, ← HMM.out]; exact Nat.le_refl _)] at h1
        exact h1.then Acts.flush
  · have hxb : (x3 != 0) = true := by simp [hx]
    have HX := Lib.hid hx
    clear hx
    go_wp2
    go_ret
    refine ⟨x3, d3, c3, rfl, P3.out, D3.out, ?_⟩
    rw [HSHE.out]
    exact AC3.out.stop _ HX.out
end Go.Proofs.Ytdldclakkplliaa
