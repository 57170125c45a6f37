/- The walk of Reset. Conditions: none. -/
import Derived.Test.YtdldclakkplliaaJAppend
import Derived.BigQuiet
namespace Go.Proofs.Ytdldclakkplliaa
set_option linter.unusedVariables false
set_option linter.unusedSimpArgs false
open Go.RowKit

/-- A head of a half. -/
def headX (number : Nat) (base : List UInt8) : List UInt8 := sumN number 0 base ++ (putN number 8 ++ (putN base.length 4 ++ putN number 8)) ++ List.replicate 40 0
theorem headX_len (number : Nat) (base : List UInt8) : (headX number base).length = 64 := by
  unfold headX
  simp [sumN_length, putN_length]
inductive ResR (d : DK) (j : JK) (b : List UInt8) : Int → DK → JK → Prop
  | full : d.n / 2 * 64 < b.length + 64 → ResR d j b 4 d j
  | f1 {d1 : DK} {x : Int} : b.length + 64 ≤ d.n / 2 * 64 → Acts d (headSh d (1 - j.half) 0 zero64) d1 x → x ≠ 0 → ResR d j b x d1 (failJ j x)
  | f2 {d1 d2 : DK} {x : Int} : b.length + 64 ≤ d.n / 2 * 64 → Acts d (headSh d (1 - j.half) 0 zero64) d1 0 → Acts d1 (writesSh d1 (1 - j.half) 64 b) d2 x → x ≠ 0 → ResR d j b x d2 (failJ j x)
  | f3 {d1 d2 d3 : DK} {x : Int} : b.length + 64 ≤ d.n / 2 * 64 → Acts d (headSh d (1 - j.half) 0 zero64) d1 0 → Acts d1 (writesSh d1 (1 - j.half) 64 b) d2 0 → Acts d2 (headSh d2 (1 - j.half) 0 (headX (j.number + 1) b)) d3 x → x ≠ 0 → ResR d j b x d3 (failJ j x)
  | ok {d1 d2 d3 : DK} {s : Wr} : b.length + 64 ≤ d.n / 2 * 64 → Acts d (headSh d (1 - j.half) 0 zero64) d1 0 → Acts d1 (writesSh d1 (1 - j.half) 64 b) d2 0 → Acts d2 (headSh d2 (1 - j.half) 0 (headX (j.number + 1) b)) d3 0 → s.b = b →
      ResR d j b 0 d3 { j with half := 1 - j.half, number := j.number + 1, base := s, recs := [], endp := 64 + b.length }
def ResQ (id idj gd mb gj : Nat) (d : DK) (j : JK) (b : List UInt8) (w : World) (col : Nat → Nat) (e : Ending) (w' : World) : Prop :=
  ∃ x d' j' col', e = .returned (.int .i64 x) ∧ Path (Two id idj) w col w' col' ∧ DiskAt w' col' id gd mb d' ∧ JAt w' col' idj gj gd j' ∧ ResR d j b x d' j'
theorem j_reset {w Y : World} {col : Nat → Nat} {id gj gd : Nat} {vr : Value} {j j' : JK} (h : JV w col id gj gd vr j) (hk : Keeps (fun k => k = gj) w Y) (hg : Y.heap[gj]? = some (.cells (jcells j' gd (.slice none 0 0)) 81 (0, 0))) (e1 : j'.recs = []) (e2 : Sl w col j'.base) :
    Step id w col Y col ∧ JV Y col id gj gd (.slice none 0 0) j' := by
  have st : Step id w col Y col := ⟨hk.mono fun k _ e => e ▸ h.hcol, fun _ _ => rfl⟩
  refine ⟨st, ⟨h.hcol, h.nz, hg, by rw [e1]; exact World.ownsRow_nil _ 0 22 1, fun k hk2 => by simp [Value.ownBlock] at hk2, e2.step st h.nz, fun q hq => by rw [e1] at hq; cases hq⟩⟩
theorem RL.four {w : World} {A1 A2 A3 A4 : Option Addr} {b1 b2 b3 b4 : List UInt8} {c1 c2 c3 c4 : Nat} (t : TypeId) (h1 : RB w A1 b1) (s1 : SV A1 b1.length c1) (h2 : RB w A2 b2) (s2 : SV A2 b2.length c2) (h3 : RB w A3 b3) (s3 : SV A3 b3.length c3) (h4 : RB w A4 b4) (s4 : SV A4 b4.length c4) {n1 n2 n3 n4 : Nat} (e1 : n1 = b1.length) (e2 : n2 = b2.length) (e3 : n3 = b3.length) (e4 : n4 = b4.length) :
    RL (w.alloc (.cells #[.slice A1 n1 c1, .slice A2 n2 c2, .slice A3 n3 c3, .slice A4 n4 c4] t)) (some ⟨w.heap.size, 0, none⟩) [b1, b2, b3, b4] := by
  subst e1 e2 e3 e4
  refine RL.mk' (by simp) (fun _ => ⟨_, rfl, fun j hj => ?_⟩)
  have : j = 0 ∨ j = 1 ∨ j = 2 ∨ j = 3 := by simp at hj; omega
  rcases this with rfl | rfl | rfl | rfl
  · exact ⟨A1, c1, cell_alloc w _ t _ _ rfl 0 _ rfl, s1, h1.alloc _⟩
  · exact ⟨A2, c2, cell_alloc w _ t _ _ rfl 1 _ rfl, s2, h2.alloc _⟩
  · exact ⟨A3, c3, cell_alloc w _ t _ _ rfl 2 _ rfl, s3, h3.alloc _⟩
  · exact ⟨A4, c4, cell_alloc w _ t _ _ rfl 3 _ rfl, s4, h4.alloc _⟩

set_option maxRecDepth 100000 in
set_option maxHeartbeats 16000000 in
theorem reset_any (id idj gd mb gj : Nat) (d : DK) (j : JK) (a : Nat) (A : Option Addr) (c : Nat) (b : List UInt8) (w : World) (col : Nat → Nat) (hd : DiskAt w col id gd mb d) (hj : JAt w col idj gj gd j) (h0 : id ≠ 0) (hidj : idj ≠ 0) (hne : id ≠ idj) {cl : Nat} (hcl : cl ≠ id ∧ cl ≠ idj) (hr : RC w col cl A b) (hsv : SV A b.length c) (hf : d.fits a) (ha : a ≤ 400000) (hm : d.m + d.cache.length ≤ a)
    (hn : 8 ≤ d.n) (hh : j.half ≤ 1) (hnum : j.number ≤ 1000000000) (hdead : j.dead = false) (hb : b.length ≤ 60000) :
    Calls Try.prog 16 #[.pointer (some ⟨gj, 0, none⟩), .slice A b.length c] w (ResQ id idj gd mb gj d j b w col) := by
  obtain ⟨v, hv⟩ := hd
  obtain ⟨vr, hjv⟩ := hj
  have hdom := hv.dom.2
  have HJJ : Hid (∀ i, Two id idj i → i ≠ 0) := Lib.hid (fun i hi => by rcases hi with rfl | rfl <;> assumption)
  have HJC : Hid (∀ i, Two id idj i → i ≠ cl) := Lib.hid (fun i hi => hi.elim (fun e e2 => hcl.1 (e2.symm.trans e)) (fun e e2 => hcl.2 (e2.symm.trans e)))
  have HOC : Hid (∀ i, Only id i → i ≠ cl) := Lib.hid (fun i hi => by rw [show i = id from hi]; exact fun e => hcl.1 e.symm)
  have HON : Hid (∀ i, Only id i → i ≠ 0 ∧ i ≠ idj) := Lib.hid (fun i hi => by rw [show i = id from hi]; exact ⟨h0, hne⟩)
  have HTO : Hid (∀ i, Only id i → Two id idj i) := Lib.hid (fun i hi => .inl hi)
  obtain ⟨bl, hbl⟩ : ∃ l, l = b.length := ⟨_, rfl⟩
  obtain ⟨S, hS⟩ : ∃ S, S = d.n / 2 * 64 := ⟨_, rfl⟩
  have hSb : S ≤ 2097152 := by omega
  have HBL := Lib.hid hbl
  have HS := Lib.hid hS
  have HV := Lib.hid hv
  have HJ := Lib.hid hjv
  have HR := Lib.hid hr
  have HSV := Lib.hid hsv
  have HFM := Lib.hid (And.intro hf hm)
  have HDEAD := Lib.hid (hdead ▸ dead_any gj gd vr j w hjv.obj)
  have HSZ := Lib.hid (size_any gj gd mb vr v j d w hjv.obj hv.obj hdom)
  rw [← hS] at HSZ
  rw [← hbl] at hb ⊢
  obtain ⟨half, hhf⟩ : ∃ h, h = j.half := ⟨_, rfl⟩
  obtain ⟨num, hnm⟩ : ∃ h, h = j.number := ⟨_, rfl⟩
  have HHF := Lib.hid hhf
  have HNM := Lib.hid hnm
  rw [← hhf] at hh
  rw [← hnm] at hnum
  obtain ⟨H2, hH2⟩ : ∃ h, h = 1 - half := ⟨_, rfl⟩
  have HH2 := Lib.hid hH2
  have tH2 : (1 : Int) - (half : Int) = (H2 : Int) := by omega
  have hh2 : H2 ≤ 1 := by omega
  obtain ⟨N, hN⟩ : ∃ n, n = num + 1 := ⟨_, rfl⟩
  have HN := Lib.hid hN
  have hNb : N ≤ 1000000001 := by omega
  have tN : (num : Int) + 1 = (N : Int) := by omega
  have c1 : w.cell? ⟨gj, 1, none⟩ = some (.int .i64 (half : Int)) := by rw [cell_of_row _ _ 1 _ _ _ hjv.obj, hhf]; rfl
  have c2 : w.cell? ⟨gj, 2, none⟩ = some (.int .i64 (num : Int)) := by rw [cell_of_row _ _ 2 _ _ _ hjv.obj, hnm]; rfl
  clear hv hjv hr hsv hf hm hdead hbl hS hhf hnm hH2 hN
  go_enter Try.func16, Try.ntmps16
  go_wp2_with fail
  refine HDEAD.out.mono ?_
  rintro e w' ⟨rfl, rfl⟩
  go_wp2_with fail
  refine HSZ.out.mono ?_
  rintro e w' ⟨rfl, rfl⟩
  by_cases hfull : S < bl + 64
  · have HA : Hid (ResR d j b 4 d j) := Lib.hid (.full (by rw [← HS.out, ← HBL.out]; exact hfull))
    have hfb : (S : Int) - 64 < (bl : Int) := by omega
    clear hfull
    go_wp2
    go_ret
    exact ⟨4, d, j, col, rfl, .refl, ⟨_, HV.out⟩, ⟨_, HJ.out⟩, HA.out⟩
  · have hfb : ¬ (S : Int) - 64 < (bl : Int) := by omega
    have hfit : bl + 64 ≤ S := by omega
    have HFIT : Hid (b.length + 64 ≤ d.n / 2 * 64) := Lib.hid (by rw [← HS.out, ← HBL.out]; exact hfit)
    have hq0 : 0 / 64 < d.n / 2 := by omega
    have hq1 : 64 / 64 < d.n / 2 := by omega
    clear hfull
    go_upto_region 7 with fail
    go_quiet (fail)
    have hb1 : Below w.heap.size w (w.drewN nq) := bel_drewM (Below.refl _ _) nq
    have D1 := Lib.hid (HV.out.grow hb1 (fun _ => 0))
    have J1 := Lib.hid (HJ.out.grow hb1 (fun _ => 0))
    have P1 : Hid (Path (Two id idj) w col (w.drewN nq) (paint w col (fun _ => 0))) := Lib.hid (.grow .refl hb1)
    have R1 := Lib.hid (RC.path HR.out P1.out HJC.out)
    generalize w.drewN nq = w1 at *
    generalize paint w col (fun _ => 0) = col1 at *
    clear hb1 c1 c2
    go_wp2_with (first | (at_make; go_loud (refine wp_make rfl _ _ 22 5 rfl Try.underlying22 info5 _ _ 64 rfl rfl (by omega) ?_); intro w2 ho hb2; have OX := Lib.hid ho; have D2 := Lib.hid (D1.out.grow hb2 (fun _ => 0)); have J2 := Lib.hid (J1.out.grow hb2 (fun _ => 0)); have P2 := Lib.hid (P1.out.grow hb2); have R2 := Lib.hid (RC.path R1.out (Path.grow (J := Two id idj) .refl hb2) HJC.out); have HBX2 := Lib.hid hb2; clear ho hb2) | fail)
    have hsj := sumj_any (.pointer (some ⟨gj, 0, none⟩)) N 0 A c b w2 R2.out.read HSV.out (by omega) (by omega)
    rw [← HBL.out] at hsj
    refine hsj.mono ?_
    clear hsj
    rintro e w3 ⟨A3, k3, rfl, sv3, rb3, -, hb3⟩
    have HB3 := Lib.hid hb3
    have RB3 := Lib.hid rb3
    have SV3 := Lib.hid sv3
    clear sv3 rb3 hb3
    go_wp2_with fail
    refine (put_any N 8 w3 (by omega) (by omega)).mono ?_
    rintro e w4 ⟨A4, k4, rfl, sv4, rb4, -, hb4⟩
    have HB4 := Lib.hid (bel_then HB3.out hb4)
    have RB3' := Lib.hid (RB3.out.below hb4)
    have RB4 := Lib.hid rb4
    have SV4 := Lib.hid sv4
    clear sv4 rb4 hb4 RB3
    go_wp2_with fail
    refine (put_any bl 4 w4 (by omega) (by omega)).mono ?_
    rintro e w5 ⟨A5, k5, rfl, sv5, rb5, -, hb5⟩
    have HB5 := Lib.hid (bel_then HB4.out hb5)
    have RB3 := Lib.hid (RB3'.out.below hb5)
    have RB4' := Lib.hid (RB4.out.below hb5)
    have RB5 := Lib.hid rb5
    have SV5 := Lib.hid sv5
    clear sv5 rb5 hb5 RB3' RB4
    go_wp2_with fail
    refine (put_any N 8 w5 (by omega) (by omega)).mono ?_
    rintro e w6 ⟨A6, k6, rfl, sv6, rb6, -, hb6⟩
    have HB6 := Lib.hid (bel_then HB5.out hb6)
    have hl := RL.four (w := w6) 22 (RB3.out.below hb6) (c1 := k3) (by rw [sumN_length]; exact SV3.out) (RB4'.out.below hb6) (c2 := k4) (by rw [putN_length]; exact SV4.out) (RB5.out.below hb6) (c3 := k5) (by rw [putN_length]; exact SV5.out) rb6 (c4 := k6) (by rw [putN_length]; exact sv6) (n1 := 4) (n2 := 8) (n3 := 4) (n4 := 8) (sumN_length _ _ _).symm (putN_length _ _).symm (putN_length _ _).symm (putN_length _ _).symm
    have hcc : Calls Try.prog 47 #[.slice (some ⟨w6.heap.size, 0, none⟩) 4 4] _ _ := concat_any (some ⟨w6.heap.size, 0, none⟩) 4 [sumN N 0 b, putN N 8, putN bl 4, putN N 8] _ hl (by simp) (by simp [sumN_length, putN_length])
    have HCC := Lib.hid hcc
    clear hl hcc sv6 rb6 hb6
    go_wp2_with fail
    refine HCC.out.mono ?_
    rintro e w7 ⟨v7, rfl, ob7, hb7⟩
    have HB7 := Lib.hid (bel_then HB6.out (bel_then (bel_alloc (Below.refl w6.heap.size w6) _) hb7))
    obtain ⟨A7, k7, e7, sv7, rb7⟩ := ob7.reads
    have hfl : [sumN N 0 b, putN N 8, putN bl 4, putN N 8].flatten.length = 24 := by simp [sumN_length, putN_length]
    rw [hfl] at e7
    subst e7
    have ox7 := OX.out.below HB7.out
    obtain ⟨w8, hrun, ho8, hg8⟩ := copy_run (o := 0) (dc := 64) (sc := k7) ox7 rb7 (Nat.zero_le _) (Nat.min [sumN N 0 b, putN N 8, putN bl 4, putN N 8].flatten.length (64 - 0)) rfl
    have hX : List.take 0 (List.replicate 64 (0 : UInt8)) ++ [sumN N 0 b, putN N 8, putN bl 4, putN N 8].flatten.take (Nat.min [sumN N 0 b, putN N 8, putN bl 4, putN N 8].flatten.length (64 - 0)) ++ (List.replicate 64 (0 : UInt8)).drop (0 + Nat.min [sumN N 0 b, putN N 8, putN bl 4, putN N 8].flatten.length (64 - 0)) = headX N b := by
      have hk : Nat.min [sumN N 0 b, putN N 8, putN bl 4, putN N 8].flatten.length (64 - 0) = 24 := by rw [hfl]; rfl
      rw [hk, List.take_zero, List.nil_append, List.take_of_length_le (by rw [hfl]; exact Nat.le_refl _), List.drop_replicate]
      unfold headX
      rw [HBL.out]
      simp
    rw [hX] at ho8
    rw [hfl] at hrun
    have hb28 : Below w2.heap.size w2 w8 ∨ True := .inr trivial
    have hk8 : Below w1.heap.size w1 w8 := bel_grown (bel_then HBX2.out HB7.out) hg8 (fun k e => by cases e; exact Nat.le_refl _)
    have D8 := Lib.hid (D1.out.grow hk8 (fun _ => 0))
    have J8 := Lib.hid (J1.out.grow hk8 (fun _ => 0))
    have P8 := Lib.hid (P1.out.grow hk8)
    have R8 := Lib.hid (RC.path R1.out (Path.grow (J := Two id idj) .refl hk8) HJC.out)
    obtain ⟨AX, kX, eX, svX, rbX⟩ := ho8.reads
    rw [headX_len] at eX svX
    cases eX
    have RX8 := Lib.hid (RC.new (col := col1) 0 rbX (fun ad e => by cases e; exact Nat.le_refl _))
    have SVX := Lib.hid svX
    clear ob7 hb7 sv7 rb7 ox7 ho8 hg8 hX hb28 hk8 svX rbX D2 J2 P2 R2 OX HBX2 HB3 HB4 HB5 HB6 HB7 hfl HCC
    generalize paint w1 col1 (fun _ => 0) = col8 at *
    go_wp2_with (first | (at_make; go_loud (refine wp_make rfl _ _ 22 5 rfl Try.underlying22 info5 _ _ 64 rfl rfl (by omega) ?_); intro w9 ho hb9; obtain ⟨AZ, kZ, eZ, svZ, rbZ⟩ := ho.reads; rw [List.length_replicate] at eZ svZ; cases eZ; have D9 := Lib.hid (D8.out.grow hb9 (fun _ => 0)); have J9 := Lib.hid (J8.out.grow hb9 (fun _ => 0)); have P9 := Lib.hid (P8.out.grow hb9); have R9 := Lib.hid (RC.path R8.out (Path.grow (J := Two id idj) .refl hb9) HJC.out); have RX9 := Lib.hid (RC.path RX8.out (Path.grow (J := Two id idj) .refl hb9) HJJ.out); have RZ9 := Lib.hid (RC.new (col := col8) 0 rbZ (fun ad e => by cases e; exact Nat.le_refl _)); have SVZ := Lib.hid svZ; clear ho svZ rbZ hb9) | fail)
    have hz64 : zero64.length = 64 := List.length_replicate ..
    have hh1 := heading_any id idj gd mb gj d j H2 0 a 0 (some ⟨w8.heap.size, 0, none⟩) 64 zero64 w9 _ ⟨_, D9.out⟩ ⟨_, J9.out⟩ h0 hne RZ9.out h0.symm HFM.out.1 (by omega) HFM.out.2 hh2 hq0 (by rw [hz64]; omega)
    rw [hz64] at hh1
    refine hh1.mono ?_
    clear hh1 hz64 hrun
    rintro e wA ⟨x1, d1, colA, rfl, pA, ddA, aaA⟩
    have PA := Lib.hid (P9.out.trans (pA.mono HTO.out))
    have DA := Lib.hid ddA
    have JA := Lib.hid (JAt.path ⟨_, J9.out⟩ pA HON.out)
    have RA := Lib.hid (RC.path R9.out pA HOC.out)
    have RXA := Lib.hid (RC.path RX9.out pA (fun i hi => (HON.out i hi).1))
    have AA : Hid (Acts d (headSh d H2 0 zero64) d1 x1) := Lib.hid aaA
    have HMO1 := Lib.hid (AA.out.more HFM.out.1 HFM.out.2)
    clear pA ddA aaA D8 J8 P8 R8 RX8 D9 J9 P9 R9 RX9 RZ9
    by_cases hx1 : x1 = 0
    · subst hx1
      have hwr := writes_any id idj gd mb gj d1 j H2 64 (a + 2) A c b wA colA DA.out JA.out h0 hne RA.out.read HSV.out HMO1.out.1 (by omega) HMO1.out.2.1 hh2 (by rw [HMO1.out.2.2]; exact hq1) (by rw [HMO1.out.2.2, ← HBL.out, ← HS.out]; omega)
      rw [← HBL.out] at hwr
      have HWR := Lib.hid hwr
      clear hwr
      go_wp2_with fail
      refine HWR.out.mono ?_
      rintro e wB ⟨x2, d2, colB, rfl, pB, ddB, aaB⟩
      have PB := Lib.hid (PA.out.trans (pB.mono HTO.out))
      have DB := Lib.hid ddB
      have JB := Lib.hid (JA.out.path pB HON.out)
      have RBB := Lib.hid (RC.path RA.out pB HOC.out)
      have RXB := Lib.hid (RC.path RXA.out pB (fun i hi => (HON.out i hi).1))
      have AB := Lib.hid aaB
      have HMO2 := Lib.hid (AB.out.more HMO1.out.1 HMO1.out.2.1)
      have hwl : (writesSh d1 H2 64 b).length ≤ 40000 := by
        unfold writesSh
        have h1 := blankSh_len d1 H2 (64 / 64 + ((fullB d1 H2 64 b).length + 63) / 64)
        have h2 : (fullB d1 H2 64 b).length ≤ bl := by
          unfold fullB
          rw [List.length_append, List.length_take, ← HBL.out]
          have := Nat.min_le_left (64 % 64) (readB d1 ((H2 * (d1.n / 2) + 64 / 64 : Nat) : Int)).length
          omega
        rw [List.length_append, List.length_append, chunksSh_len]
        simp only [List.length_cons, List.length_nil]
        omega
      have HMO3 : Hid (d2.fits (a + 40002) ∧ d2.m + d2.cache.length ≤ a + 40002 ∧ d2.n = d.n) := Lib.hid ⟨DiskAt.fits' HMO2.out.1 (by simp [headSh]; omega), by have := HMO2.out.2.1; simp [headSh] at this; omega, HMO2.out.2.2.trans HMO1.out.2.2⟩
      clear pB ddB aaB HWR HMO2 hwl
      by_cases hx2 : x2 = 0
      · subst hx2
        have hh3 := heading_any id idj gd mb gj d2 j H2 0 (a + 40002) 0 (some ⟨w1.heap.size, 0, none⟩) 64 (headX N b) wB colB DB.out JB.out h0 hne RXB.out h0.symm HMO3.out.1 (by omega) HMO3.out.2.1 hh2 (by rw [HMO3.out.2.2]; exact hq0) (by rw [headX_len]; omega)
        rw [headX_len] at hh3
        have HH3 := Lib.hid hh3
        clear hh3
        go_wp2_with fail
        refine HH3.out.mono ?_
        rintro e wC ⟨x3, d3, colC, rfl, pC, ddC, aaC⟩
        have PC := Lib.hid (PB.out.trans (pC.mono HTO.out))
        have DC := Lib.hid ddC
        have JC := Lib.hid (JB.out.path pC HON.out)
        have RCC := Lib.hid (RC.path RBB.out pC HOC.out)
        have AC : Hid (Acts d2 (headSh d2 H2 0 (headX N b)) d3 x3) := Lib.hid aaC
        clear pC ddC aaC HH3
        by_cases hx3 : x3 = 0
        · subst hx3
          have HCLN := Lib.hid (clone_at A c bl b wC HBL.out RCC.out.read HSV.out (by rw [← HBL.out]; omega))
          go_wp2_with fail
          refine HCLN.out.mono ?_
          rintro e wD ⟨vD, rfl, obD, hbD⟩
          obtain ⟨AD, kD, eD, svD, rbD⟩ := obD.reads
          have hfrD : ∀ ad, AD = some ad → wC.heap.size ≤ ad.block := fun ad e => obD.base_ ad.block (by rw [eD, e]; rfl)
          have svb := svD
          rw [← HBL.out] at eD svD
          subst eD
          obtain ⟨vrD, jvD⟩ := JC.out.grow hbD (fun _ => 0)
          have DD := DC.out.grow hbD (fun _ => 0)
          have PD := PC.out.grow hbD
          have SD : Sl wD (paint wC colC (fun _ => 0)) ⟨0, b, AD, kD⟩ := ⟨svb, RC.new 0 rbD hfrD⟩
          have q1 := row_set (j := 1) (.int .i64 (H2 : Int)) jvD.obj
          have q2 := row_set (j := 2) (.int .i64 (N : Int)) q1
          have q3 := row_set (j := 3) (.slice AD bl kD) q2
          have q4 := row_set (j := 4) (.slice none 0 0) q3
          have q5 := row_set (j := 5) (.int .i64 ((64 + bl : Nat) : Int)) q4
          have z1 := frozen_of_row _ _ 1 _ _ jvD.obj
          have z2 := frozen_of_row _ _ 2 _ _ q1
          have z3 := frozen_of_row _ _ 3 _ _ q2
          have z4 := frozen_of_row _ _ 4 _ _ q3
          have z5 := frozen_of_row _ _ 5 _ _ q4
          have y1 : wD.cell? ⟨gj, 1, none⟩ = some (.int .i64 (half : Int)) := by rw [cell_of_row _ _ 1 _ _ _ jvD.obj, HHF.out]; rfl
          have y2 : (wD.setCell ⟨gj, 1, none⟩ (.int .i64 (H2 : Int))).cell? ⟨gj, 2, none⟩ = some (.int .i64 (num : Int)) := by rw [cell_of_row _ _ 2 _ _ _ q1, HNM.out]; rfl
          have y3 : ((wD.setCell ⟨gj, 1, none⟩ (.int .i64 (H2 : Int))).setCell ⟨gj, 2, none⟩ (.int .i64 (N : Int))).cell? ⟨gj, 3, none⟩ = some (.slice j.base.A j.base.b.length j.base.c) := by rw [cell_of_row _ _ 3 _ _ _ q2]; rfl
          have y4 : (((wD.setCell ⟨gj, 1, none⟩ (.int .i64 (H2 : Int))).setCell ⟨gj, 2, none⟩ (.int .i64 (N : Int))).setCell ⟨gj, 3, none⟩ (.slice AD bl kD)).cell? ⟨gj, 4, none⟩ = some vrD := by rw [cell_of_row _ _ 4 _ _ _ q3]; rfl
          have y5 : ((((wD.setCell ⟨gj, 1, none⟩ (.int .i64 (H2 : Int))).setCell ⟨gj, 2, none⟩ (.int .i64 (N : Int))).setCell ⟨gj, 3, none⟩ (.slice AD bl kD)).setCell ⟨gj, 4, none⟩ (.slice none 0 0)).cell? ⟨gj, 5, none⟩ = some (.int .i64 (j.endp : Int)) := by rw [cell_of_row _ _ 5 _ _ _ q4]; rfl
          have hk5 := keeps_set (j := 5) (u := .int .i64 ((64 + bl : Nat) : Int)) (keeps_set (j := 4) (u := .slice none 0 0) (keeps_set (j := 3) (u := .slice AD bl kD) (keeps_set (j := 2) (u := .int .i64 (N : Int)) (keeps_set (j := 1) (u := .int .i64 (H2 : Int)) (Keeps.refl (fun i => i = gj) wD) rfl) rfl) rfl) rfl) rfl
          obtain ⟨stE, jvE⟩ := j_reset (j' := { j with half := H2, number := N, base := ⟨0, b, AD, kD⟩, recs := [], endp := 64 + bl }) jvD hk5 (by rw [HBL.out] at q5 ⊢; exact q5) rfl SD
          rw [show ((64 + bl : Nat) : Int) = 64 + (bl : Int) by omega] at stE jvE
          have HA : Hid (ResR d j b 0 d3 { j with half := H2, number := N, base := ⟨0, b, AD, kD⟩, recs := [], endp := 64 + bl }) := Lib.hid (by
            have h1 := ResR.ok (j := j) (s := ⟨0, b, AD, kD⟩) HFIT.out (by rw [← HHF.out, ← HH2.out]; exact AA.out) (by rw [← HHF.out, ← HH2.out]; exact AB.out) (by rw [← HHF.out, ← HH2.out, ← HNM.out, ← HN.out]; exact AC.out) rfl
            rw [← HHF.out, ← HH2.out, ← HNM.out, ← HN.out, ← HBL.out] at h1
            exact h1)
          have HEND := Lib.hid (And.intro (Path.step (J := Two id idj) (.inr rfl) PD stE) (And.intro (DD.step stE (fun e => hne e.symm) hidj) (⟨_, jvE⟩ : JAt _ _ idj gj gd _)))
          clear obD hbD svD svb rbD hfrD jvD DD PD SD q1 q2 q3 q4 q5 hk5 stE jvE
          go_wp2
          go_ret
          exact ⟨0, d3, _, _, rfl, HEND.out.1, HEND.out.2.1, HEND.out.2.2, HA.out⟩
        · have hx3b : (x3 != 0) = true := by simp [hx3]
          have HX3 := Lib.hid hx3
          obtain ⟨vr3, jv3⟩ := JC.out
          have HJV3 := Lib.hid jv3
          clear hx3 jv3
          go_wp2_with fail
          refine (fails_any gj gd idj vr3 j x3 wC colC HJV3.out).mono ?_
          rintro e wE ⟨rfl, st4, jv4⟩
          have P6 := Lib.hid (Path.step (J := Two id idj) (.inr rfl) PC.out st4)
          have D6 := Lib.hid (DC.out.step st4 (fun e => hne e.symm) hidj)
          have J6 := Lib.hid jv4
          have HA : Hid (ResR d j b x3 d3 (failJ j x3)) := Lib.hid (.f3 HFIT.out (by rw [← HHF.out, ← HH2.out]; exact AA.out) (by rw [← HHF.out, ← HH2.out]; exact AB.out) (by rw [← HHF.out, ← HH2.out, ← HNM.out, ← HN.out]; exact AC.out) HX3.out)
          clear st4 jv4
          go_wp2
          go_ret
          exact ⟨x3, d3, _, colC, rfl, P6.out, D6.out, ⟨_, J6.out⟩, HA.out⟩
      · have hx2b : (x2 != 0) = true := by simp [hx2]
        have HX2 := Lib.hid hx2
        obtain ⟨vr3, jv3⟩ := JB.out
        have HJV3 := Lib.hid jv3
        clear hx2 jv3
        go_wp2_with fail
        refine (fails_any gj gd idj vr3 j x2 wB colB HJV3.out).mono ?_
        rintro e wE ⟨rfl, st4, jv4⟩
        have P6 := Lib.hid (Path.step (J := Two id idj) (.inr rfl) PB.out st4)
        have D6 := Lib.hid (DB.out.step st4 (fun e => hne e.symm) hidj)
        have J6 := Lib.hid jv4
        have HA : Hid (ResR d j b x2 d2 (failJ j x2)) := Lib.hid (.f2 HFIT.out (by rw [← HHF.out, ← HH2.out]; exact AA.out) (by rw [← HHF.out, ← HH2.out]; exact AB.out) HX2.out)
        clear st4 jv4
        go_wp2
        go_ret
        exact ⟨x2, d2, _, colB, rfl, P6.out, D6.out, ⟨_, J6.out⟩, HA.out⟩
    · have hx1b : (x1 != 0) = true := by simp [hx1]
      have HX1 := Lib.hid hx1
      obtain ⟨vr3, jv3⟩ := JA.out
      have HJV3 := Lib.hid jv3
      clear hx1 jv3
      go_wp2_with fail
      refine (fails_any gj gd idj vr3 j x1 wA colA HJV3.out).mono ?_
      rintro e wE ⟨rfl, st4, jv4⟩
      have P6 := Lib.hid (Path.step (J := Two id idj) (.inr rfl) PA.out st4)
      have D6 := Lib.hid (DA.out.step st4 (fun e => hne e.symm) hidj)
      have J6 := Lib.hid jv4
      have HA : Hid (ResR d j b x1 d1 (failJ j x1)) := Lib.hid (.f1 HFIT.out (by rw [← HHF.out, ← HH2.out]; exact AA.out) HX1.out)
      clear st4 jv4
      go_wp2
      go_ret
      exact ⟨x1, d1, _, colA, rfl, P6.out, D6.out, ⟨_, J6.out⟩, HA.out⟩
end Go.Proofs.Ytdldclakkplliaa
