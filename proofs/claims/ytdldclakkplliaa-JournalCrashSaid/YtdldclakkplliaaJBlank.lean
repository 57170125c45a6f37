/- The walk of blank. Conditions: none. -/
import Derived.Test.YtdldclakkplliaaJHead
namespace Go.Proofs.Ytdldclakkplliaa
set_option linter.unusedVariables false
set_option linter.unusedSimpArgs false
open Go.RowKit

def zero64 : List UInt8 := List.replicate 64 0
def blankSh (d : DK) (half i : Nat) : List (Option (Int × List UInt8)) :=
  if d.n / 2 ≤ i then [] else if readB d ((half * (d.n / 2) + i : Nat) : Int) = zero64 then [] else [some (((half * (d.n / 2) + i : Nat) : Int), zero64), none]
set_option maxRecDepth 100000 in
set_option maxHeartbeats 4000000 in
theorem blank_any (id idj gd mb gj : Nat) (d : DK) (j : JK) (half i a : Nat) (w : World) (col : Nat → Nat) (h : DiskAt w col id gd mb d) (hj : JAt w col idj gj gd j) (h0 : id ≠ 0) (hne : id ≠ idj) (hf : d.fits a) (ha : a ≤ 900000) (hm : d.m + d.cache.length ≤ a) (hh : half ≤ 1) (hi : i ≤ 1000000) :
    Calls Try.prog 72 #[.pointer (some ⟨gj, 0, none⟩), .int .i64 half, .int .i64 i] w (ActQ id gd mb d (blankSh d half i) w col) := by
  obtain ⟨vr, hj⟩ := hj
  obtain ⟨v, hv⟩ := h
  have hdom := hv.dom
  obtain ⟨sh, hsh⟩ : ∃ sh, sh = blankSh d half i := ⟨_, rfl⟩
  rw [← hsh]
  unfold blankSh at hsh
  obtain ⟨N2, hN2⟩ : ∃ N, N = d.n / 2 := ⟨_, rfl⟩
  obtain ⟨H, hH⟩ : ∃ H, H = half * N2 := ⟨_, rfl⟩
  rw [← hN2, ← hH] at hsh
  have hHb : H + N2 ≤ d.n := by
    rcases (by omega : half = 0 ∨ half = 1) with e | e
    · rw [e] at hH; omega
    · rw [e] at hH; omega
  obtain ⟨I, hI⟩ : ∃ I, I = H + i := ⟨_, rfl⟩
  rw [← hI] at hsh
  have t1 : (d.n : Int).tdiv 2 = (N2 : Int) := by rw [Int.tdiv_eq_ediv_of_nonneg (by omega)]; omega
  have t2 : (half : Int) * (N2 : Int) = (H : Int) := by rw [hH]; push_cast; rfl
  have hn2 : N2 ≤ 65536 := by omega
  have hdomn := hdom.2
  have HV := Lib.hid hv
  have HJ := Lib.hid hj
  have c0 := hj.c0
  have HI := Lib.hid hI
  have HSH := Lib.hid hsh
  have HFM := Lib.hid (And.intro hf hm)
  have hcl1 : d.cache.length ≤ 1000000 := by omega
  clear hsh hf hm hv hj hN2 hH hI
  go_enter Try.func72, Try.ntmps72
  go_wp2_with fail
  refine (sectors_any gd mb v d w HV.out.obj).mono ?_
  rintro e w' ⟨rfl, rfl⟩
  by_cases hge : N2 ≤ i
  · have HS : Hid (sh = []) := Lib.hid (by rw [HSH.out, if_pos hge])
    have hgeb : decide ((N2 : Int) ≤ (i : Int)) = true := by simp; omega
    go_wp2_with (first | (at_make; go_loud (refine wp_make rfl _ _ 22 5 rfl Try.underlying22 info5 _ _ 64 rfl rfl (by omega) ?_); intro w1 ho hb; have HO1 := Lib.hid ho; have HB1 := Lib.hid hb; clear ho hb) | fail)
    go_ret
    rw [HS.out]
    exact ⟨0, d, _, rfl, .grow .refl HB1.out, ⟨_, HV.out.grow HB1.out _⟩, Acts.nil d⟩
  · have hgeb : decide ((N2 : Int) ≤ (i : Int)) = false := by simp; omega
    have hin : 0 ≤ (I : Int) ∧ (I : Int) < d.n := ⟨by omega, by have := HI.out; omega⟩
    have HIN := Lib.hid hin
    have HWE := Lib.hid (writeE_in hin)
    obtain ⟨S0, hS0⟩ : ∃ S, S = readB d I := ⟨_, rfl⟩
    have HS0 := Lib.hid hS0
    have hgei : ¬ N2 ≤ i := hge
    have HSH2 : Hid (sh = if S0 = zero64 then [] else [some ((I : Int), zero64), none]) := Lib.hid (by rw [HSH.out, if_neg hge, ← hS0])
    clear hge hin hS0 HSH
    go_wp2_with (first | (at_make; go_loud (refine wp_make rfl _ _ 22 5 rfl Try.underlying22 info5 _ _ 64 rfl rfl (by omega) ?_); intro w1 ho hb; obtain ⟨A1, k1, e1, sv1, rb1⟩ := ho.reads; rw [List.length_replicate] at e1 sv1; cases e1; have D1 := Lib.hid (HV.out.grow hb (fun _ => 0)); have J1 := Lib.hid (HJ.out.grow hb (fun _ => 0)); have R1 := Lib.hid (RC.new (col := col) 0 rb1 (fun _ e => by cases e; exact Nat.le_refl _)); have SV1 := Lib.hid sv1; have HB1 := Lib.hid hb; have c01 := J1.out.c0; clear ho sv1 rb1 hb) | fail)
    have hIq : (H : Int) + (i : Int) = (I : Int) := by rw [HI.out]; omega
    have HIQ := Lib.hid hIq
    have hrd := read_use id gd mb d I w1 _ ⟨_, D1.out⟩ HIN.out hcl1 S0 HS0.out.symm
    rw [← hIq] at hrd
    refine hrd.mono ?_
    clear hrd hIq
    rintro e w2 ⟨A2, c2, rfl, sv2, rb2, hl2, hb2⟩
    have D2 := Lib.hid (D1.out.grow hb2 (fun _ => 0))
    have J2 := Lib.hid (J1.out.grow hb2 (fun _ => 0))
    have R2 := Lib.hid ((R1.out.recol (col' := paint w1 (paint w col (fun _ => 0)) (fun _ => 0)) (fun k hk => paint_old hk)).below hb2)
    have RB2 := Lib.hid rb2
    have HL2 := Lib.hid hl2
    have P2 : Hid (Path (Only id) w col w2 _) := Lib.hid ((Path.grow .refl HB1.out).grow hb2)
    clear sv2 rb2 hl2 hb2 c01
    go_wp2_with fail
    have heq := equal_any A2 (some ⟨w.heap.size, 0, none⟩) c2 64 S0 (List.replicate 64 0) w2 RB2.out R2.out.read
    rw [HL2.out, List.length_replicate] at heq
    refine heq.mono ?_
    clear heq
    rintro e w3 ⟨rfl, hb3⟩
    have D3 := Lib.hid (D2.out.grow hb3 (fun _ => 0))
    have J3 := Lib.hid (J2.out.grow hb3 (fun _ => 0))
    have R3 := Lib.hid ((R2.out.recol (col' := paint w2 (paint w1 (paint w col (fun _ => 0)) (fun _ => 0)) (fun _ => 0)) (fun k hk => paint_old hk)).below hb3)
    have P3 := Lib.hid (P2.out.grow hb3)
    have c03 := J3.out.c0
    clear hb3
    by_cases hz : S0 = zero64
    · have HS : Hid (sh = []) := Lib.hid (by rw [HSH2.out, if_pos hz])
      have hzb : decide (S0 = List.replicate 64 0) = true := by rw [decide_eq_true_iff]; exact hz
      rw [hzb]
      clear hz hzb
      go_wp2
      go_ret
      rw [HS.out]
      exact ⟨0, d, _, rfl, P3.out, ⟨_, D3.out⟩, Acts.nil d⟩
    · have HS : Hid (sh = [some ((I : Int), zero64), none]) := Lib.hid (by rw [HSH2.out, if_neg hz])
      have hzb : decide (S0 = List.replicate 64 0) = false := by rw [decide_eq_false_iff_not]; exact hz
      rw [hzb]
      clear hz hzb HSH2
      go_wp2_with fail
      have hwr := write_64 id gd mb d a ((H : Int) + (i : Int)) (some ⟨w.heap.size, 0, none⟩) 64 0 zero64 w3 _ ⟨_, D3.out⟩ HFM.out.1 (by omega) R3.out h0.symm SV1.out (List.length_replicate ..)
      rw [show writeE d ((H : Int) + (i : Int)) 64 = (askedK d).2 by rw [HIQ.out]; exact HWE.out] at hwr
      refine hwr.mono ?_
      clear hwr
      rintro e w4 ⟨rfl, c4, A4, k4, st4, hd4⟩
      rw [HIQ.out] at hd4
      have P4 := Lib.hid (Path.step (J := Only id) rfl P3.out st4)
      have J4 := Lib.hid (J3.out.step st4 hne h0)
      have D4 := Lib.hid hd4
      have HAW : Hid (Acts d [some ((I : Int), zero64)] (writeD d ⟨I, zero64, A4, k4⟩) (askedK d).2) := Lib.hid (by
        have := Acts.write' (d := d) (i := (I : Int)) (b := zero64) A4 k4
        rw [show zero64.length = 64 from List.length_replicate .., HWE.out] at this
        exact this)
      have hmore := HAW.out.more HFM.out.1 HFM.out.2
      have HMORE := Lib.hid hmore
      have c04 := J4.out.c0
      clear st4 hd4 hmore c03
      rcases asked_e d with he | he
      · rw [he] at HAW ⊢
        clear he
        go_wp2_with fail
        refine (flush_any id gd mb (writeD d ⟨I, zero64, A4, k4⟩) (a + 1) w4 c4 D4.out HMORE.out.1 (by omega) (by have := HMORE.out.2.1; simp at this; omega)).mono ?_
        rintro e w5 ⟨rfl, st5, hd5⟩
        have P5 := Lib.hid (Path.step (J := Only id) rfl P4.out st5)
        have D5 := Lib.hid hd5
        clear st5 hd5 c04
        go_wp2
        go_ret
        rw [HS.out]
        exact ⟨_, _, c4, rfl, P5.out, D5.out, HAW.out.then Acts.flush⟩
      · rw [he] at HAW ⊢
        clear he
        go_wp2
        go_ret
        rw [HS.out]
        exact ⟨7, _, c4, rfl, P4.out, D4.out, HAW.out.stop [none] (by decide)⟩
end Go.Proofs.Ytdldclakkplliaa
