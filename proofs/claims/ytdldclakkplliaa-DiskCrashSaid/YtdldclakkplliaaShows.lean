/- The walk of shows: a disk shows what the document's does. Conditions: none. -/
import Derived.Test.YtdldclakkplliaaDoes
import Derived.BigQuiet
namespace Go.Proofs.Ytdldclakkplliaa
set_option linter.unusedVariables false
set_option linter.unusedSimpArgs false
open Go.RowKit

theorem flip {P : Program} {f : FuncId} {args : Array Value} {w : World} {v : Value} (h : Calls P f args w fun e w' => e = .returned v ∧ w = w') : Calls P f args w fun e w' => e = .returned v ∧ w' = w := h.mono fun _ _ ⟨a, b⟩ => ⟨a, b.symm⟩
set_option maxRecDepth 100000 in
set_option maxHeartbeats 8000000 in
theorem shows_any (id idm gd mb gm a : Nat) (d : DK) (r : RK) (w : World) (col : Nat → Nat) (h : Pair w col id idm gd mb gm a d r) (ha : a ≤ 1000000) :
    Calls Try.prog 36 #[.pointer (some ⟨gd, 0, none⟩), .pointer (some ⟨gm, 0, none⟩)] w fun e w' => e = .returned (.bool true) ∧ Below w.heap.size w w' := by
  have HH := Lib.hid h
  obtain ⟨v, hv⟩ := h.disk
  obtain ⟨vs, vc, hr⟩ := h.ref
  obtain ⟨gs, cs, rfl, hcs, -, -, -⟩ := own_FS hr.so hr.dom.1
  obtain ⟨AC, cc, rfl, -⟩ := own_FW hr.co
  obtain ⟨AD, cd, rfl, -⟩ := own_FW hv.own
  obtain ⟨n, hn⟩ : ∃ n, n = d.n := ⟨_, rfl⟩
  obtain ⟨m, hm⟩ : ∃ m, m = d.cache.length := ⟨_, rfl⟩
  obtain ⟨op, hop⟩ : ∃ o, o = d.ops := ⟨_, rfl⟩
  have hnr : r.n = n := by rw [hn, h.twin.n]
  have hmr : r.cache.length = m := by rw [hm, h.twin.len]
  have hor : r.ops = op := by rw [hop, h.twin.ops]
  have HN : Hid (d.n = n ∧ r.n = n) := Lib.hid ⟨hn.symm, hnr⟩
  have hnl : 1 ≤ n ∧ n ≤ 65536 := by rw [hn]; exact hv.dom
  have HC1 : Hid (∀ X, X.heap = w.heap → Calls Try.prog 41 #[.pointer (some ⟨gd, 0, none⟩)] X fun e w' => e = .returned (.int .i64 n) ∧ w' = X) := Lib.hid (fun X hX => by rw [hn]; exact flip (sectors_any gd mb _ d X (by rw [hX]; exact hv.obj)))
  have HC2 : Hid (∀ X, X.heap = w.heap → Calls Try.prog 32 #[.pointer (some ⟨gd, 0, none⟩)] X fun e w' => e = .returned (.int .i64 m) ∧ w' = X) := Lib.hid (fun X hX => by rw [hm]; exact flip (cached_any gd mb AD _ cd d X (by rw [hX]; exact hv.obj)))
  have HC3 : Hid (∀ X, X.heap = w.heap → Calls Try.prog 33 #[.pointer (some ⟨gd, 0, none⟩)] X fun e w' => e = .returned (.int .i64 op) ∧ w' = X) := Lib.hid (fun X hX => by rw [hop]; exact flip (ops_any gd mb _ d X (by rw [hX]; exact hv.obj)))
  have c0 : w.cell? ⟨gm, 0, none⟩ = some (.slice (some ⟨gs, 0, none⟩) n cs) := by rw [cell_of_row _ _ 0 _ _ _ hr.obj, ← hnr]; rfl
  have c1 : w.cell? ⟨gm, 1, none⟩ = some (.slice AC m cc) := by rw [cell_of_row _ _ 1 _ _ _ hr.obj, ← hmr]; rfl
  have c4 : w.cell? ⟨gm, 4, none⟩ = some (.int .i64 op) := by rw [cell_of_row _ _ 4 _ _ _ hr.obj, ← hor]; rfl
  have HC0 : Hid (∀ X, Below w.heap.size w X → X.cell? ⟨gm, 0, none⟩ = some (.slice (some ⟨gs, 0, none⟩) n cs)) := Lib.hid (fun X hX => (hX.cell (World.block_lt_of_cell? _ _ c0)).trans c0)
  have hml : d.cache.length ≤ 1000000 := by have := h.fits.2.2.2.2; omega
  have HRG : Hid (∀ X, Below w.heap.size w X → ∀ k : Nat, k < n → Calls Try.prog 31 #[.pointer (some ⟨gd, 0, none⟩), .int .i64 (k : Int)] X fun e w' => ∃ A c, e = .returned (.tuple #[.slice A 64 c, .int .i64 0]) ∧ SV A 64 c ∧ RB w' A (readB d k) ∧ (readB d k).length = 64 ∧ Below X.heap.size X w') := Lib.hid (fun X hX k hk => read_use id gd mb d k X _ (HH.out.disk.below hX) ⟨by omega, by rw [← hn]; omega⟩ hml _ rfl)
  have HRB : Hid (∀ X, Below w.heap.size w X → ∀ x : Int, x < 0 ∨ (n : Int) ≤ x → Calls Try.prog 31 #[.pointer (some ⟨gd, 0, none⟩), .int .i64 x] X fun e w' => e = .returned (.tuple #[.slice none 0 0, .int .i64 1]) ∧ Below X.heap.size X w') := Lib.hid (fun X hX x hx => by
    rcases hx with hx | hx
    · exact read_low gd x X hx
    · exact read_high id gd mb d _ x X _ (hv.below hX) (by rw [← hn]; exact hx))
  have HSG : Hid (∀ X, Below w.heap.size w X → ∀ k : Nat, k < n → Calls Try.prog 65 #[.pointer (some ⟨gm, 0, none⟩), .int .i64 (k : Int)] X fun e w' => ∃ A c, e = .returned (.tuple #[.slice A 64 c, .int .i64 0]) ∧ SV A 64 c ∧ RB w' A (readB d k) ∧ Below X.heap.size X w') := Lib.hid (fun X hX k hk => by
    rw [twin_read h.twin k (by rw [← hn]; exact hk)]
    exact rread_walk idm gm _ _ r k X _ (hr.below hX) (by rw [hnr]; exact hk) (by rw [← h.twin.len]; exact hml))
  have HSB : Hid (∀ X, Below w.heap.size w X → ∀ x : Int, x < 0 ∨ (n : Int) ≤ x → Calls Try.prog 65 #[.pointer (some ⟨gm, 0, none⟩), .int .i64 x] X fun e w' => e = .returned (.tuple #[.slice none 0 0, .int .i64 1]) ∧ X = w') := Lib.hid (fun X hX x hx => rread_bad idm gm _ _ r x X _ (hr.below hX) (by rw [hnr]; exact hx))
  clear h hv hr hn hm hop hnr hmr hor hml hcs
  go_enter Try.func36, Try.ntmps36
  go_upto_region 1 with fail
  go_quiet (first
    | (go_at_call 41; refine Calls.quiet_of_same (HC1.out _ rfl))
    | (go_at_call 32; refine Calls.quiet_of_same (HC2.out _ rfl))
    | (go_at_call 33; refine Calls.quiet_of_same (HC3.out _ rfl)))
  have HB0 := Lib.hid (bel_drewN (Below.refl w.heap.size w) nq)
  generalize w.drewN nq = w1 at *
  clear c0 c1 c4
  obtain ⟨L, hL⟩ : ∃ L : Nat, (L : Int) = min (n : Int) 40 := ⟨min n 40, by omega⟩
  have hL2 : L ≤ n ∧ L ≤ 40 := by omega
  have HLL := Lib.hid hL
  clear hL
  go_wp2
  go_loopw [5, 6, 7, 8, 9] (fun u5 u6 u7 u8 u9 w' => ∃ x : Int, -1 ≤ x ∧ x ≤ L + 1 ∧ u5 = .int .i64 x ∧ Hid (Below w.heap.size w w')) (fun u5 _ _ _ _ _ => ((L : Int) + 2 - intOf u5).toNat)
  case atStart => exact ⟨-1, by omega, by omega, rfl, HB0⟩
  case round =>
    clear HB0
    obtain ⟨x, hx1, hx2, rfl, HB⟩ := hrel
    have x0 := HC0.out wr HB.out
    by_cases hle : x ≤ L
    · have hdec : decide (x ≤ min (n : Int) 40) = true := by rw [← HLL.out]; simp; omega
      by_cases hin : 0 ≤ x ∧ x < n
      · obtain ⟨k, rfl⟩ : ∃ k : Nat, x = (k : Int) := ⟨x.toNat, by omega⟩
        have hkn : k < n := by omega
        clear hin
        go_wp2_with fail
        refine (HRG.out wr HB.out k hkn).mono ?_
        rintro e w2 ⟨A2, c2, rfl, sv2, rb2, hl2, hb2⟩
        have HB2 := Lib.hid (bel_then HB.out hb2)
        obtain ⟨B, hB⟩ : ∃ B, B = readB d k := ⟨_, rfl⟩
        rw [← hB] at rb2 hl2
        have RB2 := Lib.hid rb2
        have HL2 := Lib.hid hl2
        have HBE := Lib.hid hB
        clear sv2 rb2 hl2 hb2 hB x0
        go_wp2_with fail
        refine (HSG.out w2 HB2.out k hkn).mono ?_
        rintro e w3 ⟨A3, c3, rfl, sv3, rb3, hb3⟩
        have HB3 := Lib.hid (bel_then HB2.out hb3)
        rw [← HBE.out] at rb3
        have q2 := conv_str (n := 64) (c := c2) HL2.out.symm (RB2.out.below hb3)
        have q3 := conv_str (n := 64) (c := c3) HL2.out.symm rb3
        clear sv3 rb3 hb3
        go_wp2
        go_roundw
        case rel => exact ⟨(k : Int) + 1, by omega, by omega, by go_num, HB3⟩
        case measure => simp [intOf]; omega
      · have hout : x < 0 ∨ (n : Int) ≤ x := by omega
        clear hin
        have HOUT := Lib.hid hout
        clear hout
        go_wp2_with fail
        refine (HRB.out wr HB.out x HOUT.out).mono ?_
        rintro e w2 ⟨rfl, hb2⟩
        have HB2 := Lib.hid (bel_then HB.out hb2)
        clear hb2 x0
        go_wp2_with fail
        refine (HSB.out w2 HB2.out x HOUT.out).mono ?_
        rintro e w' ⟨rfl, rfl⟩
        have q2 := conv_str (w := w2) (A := none) (bs := []) (n := 0) (c := 0) rfl (RB.nil _ _)
        go_wp2
        go_roundw
        case rel => exact ⟨x + 1, by omega, by omega, by go_num, HB2⟩
        case measure => simp [intOf]; omega
    · have hdec : decide (x ≤ min (n : Int) 40) = false := by rw [← HLL.out]; simp; omega
      go_wp2
      go_ret
      exact ⟨rfl, HB.out⟩
end Go.Proofs.Ytdldclakkplliaa
