/- The walk of heads. Conditions: none. -/
import Derived.Test.YtdldclakkplliaaJBytes
namespace Go.Proofs.Ytdldclakkplliaa
set_option linter.unusedVariables false
set_option linter.unusedSimpArgs false
open Go.RowKit

noncomputable def G43 : Array Oper := regionOf Try.f43 7
theorem Gns43 : Region.noSelect G43 = true := by kernel_rfl
def headNum (H : List UInt8) : Nat := getN ((H.drop 4).take 7)
def headLen (H : List UInt8) : Nat := getN ((H.drop 12).take 4)
def headBase (H : List UInt8) : List UInt8 := (H.drop 64).take (headLen H)
/-- A half's head: its number, its base. -/
def headsN (H : List UInt8) : Option (Nat × List UInt8) :=
  if H.length < headLen H + 64 then none else if headNum H = 0 then none else if (H.drop 16).take 8 ≠ (H.drop 4).take 8 then none
  else if H.take 4 ≠ sumN (headNum H) 0 (headBase H) then none else some (headNum H, headBase H)
def HeadsQ (H : List UInt8) (w : World) (e : Ending) (w' : World) : Prop :=
  Below w.heap.size w w' ∧ ((headsN H = none ∧ e = .returned (.tuple #[.int .i64 0, .slice none 0 0, .bool false])) ∨
    ∃ num base A c, headsN H = some (num, base) ∧ e = .returned (.tuple #[.int .i64 (num : Nat), .slice A base.length c, .bool true]) ∧ SV A base.length c ∧ RB w' A base)
theorem cut_at {w : World} {g : Nat} {H : List UInt8} (h : RB w (some ⟨g, 0, none⟩) H) (i n : Nat) (hi : i + n ≤ H.length) : RB w (some ⟨g, i, none⟩) ((H.drop i).take n) :=
  h.cut i n hi (fun _ ad e => by cases e; rw [add0])
theorem cut_len {H : List UInt8} {i n : Nat} (hi : i + n ≤ H.length) : ((H.drop i).take n).length = n := by rw [List.length_take, List.length_drop]; omega
set_option maxRecDepth 100000 in
set_option maxHeartbeats 8000000 in
theorem heads_any (gd mb gj g c L : Nat) (d : DK) (v vr : Value) (j : JK) (H : List UInt8) (w : World) (hg : w.heap[gj]? = some (.cells (jcells j gd vr) 81 (0, 0))) (hd : w.heap[gd]? = some (.cells (dcells d mb v) 79 (0, 0))) (hn : 8 ≤ d.n ∧ d.n ≤ 65536) (hr : RB w (some ⟨g, 0, none⟩) H) (hL : L = H.length) (hH : L = d.n / 2 * 64) (hc : L ≤ c) :
    Calls Try.prog 43 #[.pointer (some ⟨gj, 0, none⟩), .slice (some ⟨g, 0, none⟩) L c] w (HeadsQ H w) := by
  obtain ⟨hn1, hn2⟩ := hn
  have hL256 : 256 ≤ L := by omega
  have hLb : L ≤ 10000000 := by omega
  have HSZ : Hid (∀ X, Below w.heap.size w X → Calls Try.prog 46 #[.pointer (some ⟨gj, 0, none⟩)] X fun e w' => e = .returned (.int .i64 (L : Int)) ∧ X = w') := Lib.hid (fun X hX => by
    rw [hH]
    exact size_any gj gd mb vr v j d X (heap_below hg hX) (heap_below hd hX) hn2)
  have HR := Lib.hid hr
  have HL := Lib.hid hL
  obtain ⟨num, hnum⟩ : ∃ n, n = headNum H := ⟨_, rfl⟩
  obtain ⟨bn, hbn⟩ : ∃ n, n = headLen H := ⟨_, rfl⟩
  have hnum7 : num < 72057594037927936 := by
    rw [hnum]
    have := getN_lt ((H.drop 4).take 7)
    rw [cut_len (by omega)] at this
    unfold headNum
    omega
  have hbn4 : bn < 4294967296 := by
    rw [hbn]
    have := getN_lt ((H.drop 12).take 4)
    rw [cut_len (by omega)] at this
    unfold headLen
    omega
  have HG1 : Hid (Calls Try.prog 68 #[.slice (some ⟨g, 4, none⟩) 7 (c - 4)] w fun e w' => e = .returned (.int .i64 (num : Int)) ∧ w = w') := Lib.hid (by
    have h1 := get_any (some ⟨g, 4, none⟩) (c - 4) _ w (cut_at hr 4 7 (by omega)) (by rw [cut_len (by omega)]; omega)
    rw [cut_len (by omega)] at h1
    rw [hnum]
    exact h1)
  have HG2 : Hid (Calls Try.prog 68 #[.slice (some ⟨g, 12, none⟩) 4 (c - 12)] w fun e w' => e = .returned (.int .i64 (bn : Int)) ∧ w = w') := Lib.hid (by
    have h1 := get_any (some ⟨g, 12, none⟩) (c - 12) _ w (cut_at hr 12 4 (by omega)) (by rw [cut_len (by omega)]; omega)
    rw [cut_len (by omega)] at h1
    rw [hbn]
    exact h1)
  have b12 : (12 : Int) ≤ (c : Int) := by omega
  have b04 : (4 : Int) ≤ (c : Int) := by omega
  have n04 : ¬ c = 4 := by omega
  have HNUM := Lib.hid hnum
  have HBN := Lib.hid hbn
  clear hg hd hr hL hH hnum hbn
  go_enter Try.func43, Try.ntmps43
  go_wp2_with fail
  refine HG1.out.mono ?_
  rintro e w' ⟨rfl, rfl⟩
  go_wp2_with fail
  refine HG2.out.mono ?_
  rintro e w' ⟨rfl, rfl⟩
  go_wp2_with fail
  refine (HSZ.out w (Below.refl _ _)).mono ?_
  rintro e w' ⟨rfl, rfl⟩
  by_cases hbig : L < bn + 64
  · have hbg : (L : Int) - 64 < (bn : Int) := by omega
    have HN : Hid (headsN H = none) := Lib.hid (by unfold headsN; rw [if_pos (by rw [← HL.out, ← HBN.out]; exact hbig)])
    go_wp2
    go_ret3
    exact ⟨Below.refl _ _, .inl ⟨HN.out, rfl⟩⟩
  · have hbg : ¬ (L : Int) - 64 < (bn : Int) := by omega
    have hfit : 64 + bn ≤ L := by omega
    have HBIG : Hid (¬ H.length < headLen H + 64) := Lib.hid (by rw [← HL.out, ← HBN.out]; exact hbig)
    obtain ⟨B, hB⟩ : ∃ B, B = headBase H := ⟨_, rfl⟩
    have hBl : B.length = bn := by rw [hB]; unfold headBase; rw [cut_len (by rw [← HBN.out, ← HL.out]; exact hfit), HBN.out]
    have RBB : Hid (∀ X, Below w.heap.size w X → RB X (some ⟨g, 64, none⟩) B) := Lib.hid (fun X hX => by
      rw [hB]
      exact cut_at (HR.out.below hX) 64 (headLen H) (by rw [← HBN.out, ← HL.out]; exact hfit))
    have HB := Lib.hid hB
    have HBL := Lib.hid hBl
    clear hB hBl hbig
    by_cases hz : num = 0
    · subst hz
      have HN : Hid (headsN H = none) := Lib.hid (by unfold headsN; rw [if_neg HBIG.out, if_pos HNUM.out.symm])
      go_upto_region 7 with fail
      have HBV := Lib.hid (bel_drew (Below.refl w.heap.size w))
      refine region_const (G := G43) (S := fun _ => True) (n := 19) (by kernel_rfl) (by kernel_rfl) rfl trivial (fun HG _ => ?_)
      have Gns := Gns43
      generalize w.drew = V at *
      simp only [Array.replicate_succ, Array.replicate_zero, List.push_toArray, List.nil_append, List.cons_append]
      refine wpAnyH_take (i := 0) (v := ?_) (o_at HG 0 rfl) Gns (by kernel_rfl) (by kernel_rfl) (fun _ _ _ h => h) (Or.inl ⟨(by kernel_rfl), ?_⟩) (by first | trivial | assumption) ?_
      rotate_left
      · (intro w hSw; (try dsimp only at hSw); go_simp; try with_reducible rfl)
      try simp only [Act.put, List.getElem_toArray, List.getElem_cons_zero, List.getElem_cons_succ, List.setIfInBounds_toArray, List.set_cons_zero, List.set_cons_succ]
      refine wpAnyH_take (i := 1) (v := ?_) (o_at HG 1 rfl) Gns (by kernel_rfl) (by kernel_rfl) (fun _ _ _ h => h) (Or.inl ⟨(by kernel_rfl), ?_⟩) (by first | trivial | assumption) ?_
      rotate_left
      · (intro w hSw; (try dsimp only at hSw); go_simp; try with_reducible rfl)
      try simp only [Act.put, List.getElem_toArray, List.getElem_cons_zero, List.getElem_cons_succ, List.setIfInBounds_toArray, List.set_cons_zero, List.set_cons_succ]
      refine wpAnyH_take (i := 2) (v := ?_) (o_at HG 2 rfl) Gns (by kernel_rfl) (by kernel_rfl) (fun _ _ _ h => h) (Or.inl ⟨(by kernel_rfl), ?_⟩) (by first | trivial | assumption) ?_
      rotate_left
      · (intro w hSw; (try dsimp only at hSw); go_simp; try with_reducible rfl)
      try simp only [Act.put, List.getElem_toArray, List.getElem_cons_zero, List.getElem_cons_succ, List.setIfInBounds_toArray, List.set_cons_zero, List.set_cons_succ]
      refine wpAnyH_take (i := 3) (v := undef) (o_at HG 3 rfl) Gns (by kernel_rfl) (by kernel_rfl) (fun _ _ _ h => h) (Or.inr ⟨(by kernel_rfl), rfl⟩) (by first | trivial | assumption) ?_
      try simp only [Act.put, List.getElem_toArray, List.getElem_cons_zero, List.getElem_cons_succ, List.setIfInBounds_toArray, List.set_cons_zero, List.set_cons_succ]
      refine wpAnyH_take (i := 4) (v := undef) (o_at HG 4 rfl) Gns (by kernel_rfl) (by kernel_rfl) (fun _ _ _ h => h) (Or.inr ⟨(by kernel_rfl), rfl⟩) (by first | trivial | assumption) ?_
      try simp only [Act.put, List.getElem_toArray, List.getElem_cons_zero, List.getElem_cons_succ, List.setIfInBounds_toArray, List.set_cons_zero, List.set_cons_succ]
      refine wpAnyH_take (i := 5) (v := undef) (o_at HG 5 rfl) Gns (by kernel_rfl) (by kernel_rfl) (fun _ _ _ h => h) (Or.inr ⟨(by kernel_rfl), rfl⟩) (by first | trivial | assumption) ?_
      try simp only [Act.put, List.getElem_toArray, List.getElem_cons_zero, List.getElem_cons_succ, List.setIfInBounds_toArray, List.set_cons_zero, List.set_cons_succ]
      refine wpAnyH_take (i := 6) (v := undef) (o_at HG 6 rfl) Gns (by kernel_rfl) (by kernel_rfl) (fun _ _ _ h => h) (Or.inr ⟨(by kernel_rfl), rfl⟩) (by first | trivial | assumption) ?_
      try simp only [Act.put, List.getElem_toArray, List.getElem_cons_zero, List.getElem_cons_succ, List.setIfInBounds_toArray, List.set_cons_zero, List.set_cons_succ]
      refine wpAnyH_take (i := 7) (v := undef) (o_at HG 7 rfl) Gns (by kernel_rfl) (by kernel_rfl) (fun _ _ _ h => h) (Or.inr ⟨(by kernel_rfl), rfl⟩) (by first | trivial | assumption) ?_
      try simp only [Act.put, List.getElem_toArray, List.getElem_cons_zero, List.getElem_cons_succ, List.setIfInBounds_toArray, List.set_cons_zero, List.set_cons_succ]
      refine wpAnyH_take (i := 8) (v := ?_) (o_at HG 8 rfl) Gns (by kernel_rfl) (by kernel_rfl) (fun _ _ _ h => h) (Or.inl ⟨(by kernel_rfl), ?_⟩) (by first | trivial | assumption) ?_
      rotate_left
      · (intro w hSw; (try dsimp only at hSw); go_simp; try with_reducible rfl)
      try simp only [Act.put, List.getElem_toArray, List.getElem_cons_zero, List.getElem_cons_succ, List.setIfInBounds_toArray, List.set_cons_zero, List.set_cons_succ]
      refine wpAnyH_take (i := 9) (v := ?_) (o_at HG 9 rfl) Gns (by kernel_rfl) (by kernel_rfl) (fun _ _ _ h => h) (Or.inl ⟨(by kernel_rfl), ?_⟩) (by first | trivial | assumption) ?_
      rotate_left
      · (intro w hSw; (try dsimp only at hSw); go_simp; try with_reducible rfl)
      try simp only [Act.put, List.getElem_toArray, List.getElem_cons_zero, List.getElem_cons_succ, List.setIfInBounds_toArray, List.set_cons_zero, List.set_cons_succ]
      refine wpAnyH_take (i := 10) (v := undef) (o_at HG 10 rfl) Gns (by kernel_rfl) (by kernel_rfl) (fun _ _ _ h => h) (Or.inr ⟨(by kernel_rfl), rfl⟩) (by first | trivial | assumption) ?_
      try simp only [Act.put, List.getElem_toArray, List.getElem_cons_zero, List.getElem_cons_succ, List.setIfInBounds_toArray, List.set_cons_zero, List.set_cons_succ]
      refine wpAnyH_take (i := 11) (v := undef) (o_at HG 11 rfl) Gns (by kernel_rfl) (by kernel_rfl) (fun _ _ _ h => h) (Or.inr ⟨(by kernel_rfl), rfl⟩) (by first | trivial | assumption) ?_
      try simp only [Act.put, List.getElem_toArray, List.getElem_cons_zero, List.getElem_cons_succ, List.setIfInBounds_toArray, List.set_cons_zero, List.set_cons_succ]
      refine wpAnyH_take (i := 12) (v := undef) (o_at HG 12 rfl) Gns (by kernel_rfl) (by kernel_rfl) (fun _ _ _ h => h) (Or.inr ⟨(by kernel_rfl), rfl⟩) (by first | trivial | assumption) ?_
      try simp only [Act.put, List.getElem_toArray, List.getElem_cons_zero, List.getElem_cons_succ, List.setIfInBounds_toArray, List.set_cons_zero, List.set_cons_succ]
      refine wpAnyH_take (i := 13) (v := undef) (o_at HG 13 rfl) Gns (by kernel_rfl) (by kernel_rfl) (fun _ _ _ h => h) (Or.inr ⟨(by kernel_rfl), rfl⟩) (by first | trivial | assumption) ?_
      try simp only [Act.put, List.getElem_toArray, List.getElem_cons_zero, List.getElem_cons_succ, List.setIfInBounds_toArray, List.set_cons_zero, List.set_cons_succ]
      refine wpAnyH_take (i := 14) (v := undef) (o_at HG 14 rfl) Gns (by kernel_rfl) (by kernel_rfl) (fun _ _ _ h => h) (Or.inr ⟨(by kernel_rfl), rfl⟩) (by first | trivial | assumption) ?_
      try simp only [Act.put, List.getElem_toArray, List.getElem_cons_zero, List.getElem_cons_succ, List.setIfInBounds_toArray, List.set_cons_zero, List.set_cons_succ]
      refine wpAnyH_take (i := 15) (v := undef) (o_at HG 15 rfl) Gns (by kernel_rfl) (by kernel_rfl) (fun _ _ _ h => h) (Or.inr ⟨(by kernel_rfl), rfl⟩) (by first | trivial | assumption) ?_
      try simp only [Act.put, List.getElem_toArray, List.getElem_cons_zero, List.getElem_cons_succ, List.setIfInBounds_toArray, List.set_cons_zero, List.set_cons_succ]
      refine wpAnyH_take (i := 16) (v := undef) (o_at HG 16 rfl) Gns (by kernel_rfl) (by kernel_rfl) (fun _ _ _ h => h) (Or.inr ⟨(by kernel_rfl), rfl⟩) (by first | trivial | assumption) ?_
      try simp only [Act.put, List.getElem_toArray, List.getElem_cons_zero, List.getElem_cons_succ, List.setIfInBounds_toArray, List.set_cons_zero, List.set_cons_succ]
      refine wpAnyH_take (i := 17) (v := undef) (o_at HG 17 rfl) Gns (by kernel_rfl) (by kernel_rfl) (fun _ _ _ h => h) (Or.inr ⟨(by kernel_rfl), rfl⟩) (by first | trivial | assumption) ?_
      try simp only [Act.put, List.getElem_toArray, List.getElem_cons_zero, List.getElem_cons_succ, List.setIfInBounds_toArray, List.set_cons_zero, List.set_cons_succ]
      refine wpAnyH_take (i := 18) (v := ?_) (o_at HG 18 rfl) Gns (by kernel_rfl) (by kernel_rfl) (fun _ _ _ h => h) (Or.inl ⟨(by kernel_rfl), ?_⟩) (by first | trivial | assumption) ?_
      rotate_left
      · (intro w hSw; (try dsimp only at hSw); go_simp; try with_reducible rfl)
      try simp only [Act.put, List.getElem_toArray, List.getElem_cons_zero, List.getElem_cons_succ, List.setIfInBounds_toArray, List.set_cons_zero, List.set_cons_succ]
      refine wpAnyH_done (by kernel_rfl) ?_ _
      go_wp2
      go_ret3
      exact ⟨HBV.out, .inl ⟨HN.out, rfl⟩⟩
    · have hz1 : ((num : Int) == 0) = false := by simp; omega
      have hz2 : num ≠ 0 := hz
      have HNZ : Hid (¬ headNum H = 0) := Lib.hid (by rw [← HNUM.out]; exact hz)
      clear hz
      go_upto_region 7 with fail
      have HBV := Lib.hid (bel_drew (Below.refl w.heap.size w))
      have HEQ1 : Hid (∀ X, Below w.heap.size w X → Calls Try.prog 69 #[.slice (some ⟨g, 16, none⟩) 8 (c - 16), .slice (some ⟨g, 4, none⟩) 8 (c - 4)] X fun e w' => e = .returned (.bool (decide ((H.drop 16).take 8 = (H.drop 4).take 8))) ∧ Below X.heap.size X w') := Lib.hid (fun X hX => by
        have h1 := equal_any (some ⟨g, 16, none⟩) (some ⟨g, 4, none⟩) (c - 16) (c - 4) _ _ X (cut_at (HR.out.below hX) 16 8 (by rw [← HL.out]; omega)) (cut_at (HR.out.below hX) 4 8 (by rw [← HL.out]; omega))
        rw [cut_len (by rw [← HL.out]; omega), cut_len (by rw [← HL.out]; omega)] at h1
        exact h1)
      have HSUM : Hid (∀ X, Below w.heap.size w X → Calls Try.prog 48 #[.pointer (some ⟨gj, 0, none⟩), .int .i64 (num : Int), .int .i64 0, .slice (some ⟨g, 64, none⟩) bn (c - 64)] X (NewB X 4 (sumN num 0 B))) := Lib.hid (fun X hX => by
        have h1 := sumj_any (.pointer (some ⟨gj, 0, none⟩)) num 0 (some ⟨g, 64, none⟩) (c - 64) B X (RBB.out X hX) ⟨by rw [HBL.out]; omega, fun e => by cases e⟩ (by omega) (by omega)
        rw [HBL.out] at h1
        exact h1)
      have HEQ2 : Hid (∀ X A2 c2, Below w.heap.size w X → RB X A2 (sumN num 0 B) → Calls Try.prog 69 #[.slice (some ⟨g, 0, none⟩) 4 c, .slice A2 4 c2] X fun e w' => e = .returned (.bool (decide (H.take 4 = sumN num 0 B))) ∧ Below X.heap.size X w') := Lib.hid (fun X A2 c2 hX hr2 => by
        have h0 := cut_at (HR.out.below hX) 0 4 (by rw [← HL.out]; omega)
        rw [List.drop_zero] at h0
        have h1 := equal_any (some ⟨g, 0, none⟩) A2 c c2 _ _ X h0 hr2
        rw [sumN_length, List.length_take, Nat.min_eq_left (by rw [← HL.out]; omega)] at h1
        exact h1)
      cases hq1 : decide ((H.drop 16).take 8 = (H.drop 4).take 8) with
      | false =>
        have HN : Hid (headsN H = none) := Lib.hid (by unfold headsN; rw [if_neg HBIG.out, if_neg HNZ.out, if_pos (of_decide_eq_false hq1)])
        rw [hq1] at HEQ1
        clear hq1
        refine region_const (G := G43) (S := fun _ => True) (n := 19) (by kernel_rfl) (by kernel_rfl) rfl trivial (fun HG _ => ?_)
        have Gns := Gns43
        generalize w.drew = V at *
        simp only [Array.replicate_succ, Array.replicate_zero, List.push_toArray, List.nil_append, List.cons_append]
        refine wpAnyH_take (i := 0) (v := ?_) (o_at HG 0 rfl) Gns (by kernel_rfl) (by kernel_rfl) (fun _ _ _ h => h) (Or.inl ⟨(by kernel_rfl), ?_⟩) (by first | trivial | assumption) ?_
        rotate_left
        · (intro w hSw; (try dsimp only at hSw); go_simp; try with_reducible rfl)
        try simp only [Act.put, List.getElem_toArray, List.getElem_cons_zero, List.getElem_cons_succ, List.setIfInBounds_toArray, List.set_cons_zero, List.set_cons_succ]
        refine wpAnyH_take (i := 1) (v := ?_) (o_at HG 1 rfl) Gns (by kernel_rfl) (by kernel_rfl) (fun _ _ _ h => h) (Or.inl ⟨(by kernel_rfl), ?_⟩) (by first | trivial | assumption) ?_
        rotate_left
        · (intro w hSw; (try dsimp only at hSw); go_simp; try with_reducible rfl)
        try simp only [Act.put, List.getElem_toArray, List.getElem_cons_zero, List.getElem_cons_succ, List.setIfInBounds_toArray, List.set_cons_zero, List.set_cons_succ]
        refine wpAnyH_take (i := 2) (v := ?_) (o_at HG 2 rfl) Gns (by kernel_rfl) (by kernel_rfl) (fun _ _ _ h => h) (Or.inl ⟨(by kernel_rfl), ?_⟩) (by first | trivial | assumption) ?_
        rotate_left
        · (intro w hSw; (try dsimp only at hSw); go_simp; try with_reducible rfl)
        try simp only [Act.put, List.getElem_toArray, List.getElem_cons_zero, List.getElem_cons_succ, List.setIfInBounds_toArray, List.set_cons_zero, List.set_cons_succ]
        refine wpAnyH_take (i := 3) (v := ?_) (o_at HG 3 rfl) Gns (by kernel_rfl) (by kernel_rfl) (fun _ _ _ h => h) (Or.inl ⟨(by kernel_rfl), ?_⟩) (by first | trivial | assumption) ?_
        rotate_left
        · (intro w hSw; (try dsimp only at hSw); go_simp; try with_reducible rfl)
        try simp only [Act.put, List.getElem_toArray, List.getElem_cons_zero, List.getElem_cons_succ, List.setIfInBounds_toArray, List.set_cons_zero, List.set_cons_succ]
        refine wpAnyH_take (i := 4) (v := ?_) (o_at HG 4 rfl) Gns (by kernel_rfl) (by kernel_rfl) (fun _ _ _ h => h) (Or.inl ⟨(by kernel_rfl), ?_⟩) (by first | trivial | assumption) ?_
        rotate_left
        · (intro w hSw; (try dsimp only at hSw); go_simp; try with_reducible rfl)
        try simp only [Act.put, List.getElem_toArray, List.getElem_cons_zero, List.getElem_cons_succ, List.setIfInBounds_toArray, List.set_cons_zero, List.set_cons_succ]
        refine wpAnyH_take (i := 5) (v := ?_) (o_at HG 5 rfl) Gns (by kernel_rfl) (by kernel_rfl) (fun _ _ _ h => h) (Or.inl ⟨(by kernel_rfl), ?_⟩) (by first | trivial | assumption) ?_
        rotate_left
        · (intro w hSw; (try dsimp only at hSw); go_simp; try with_reducible rfl)
        try simp only [Act.put, List.getElem_toArray, List.getElem_cons_zero, List.getElem_cons_succ, List.setIfInBounds_toArray, List.set_cons_zero, List.set_cons_succ]
        refine wpAnyH_ready (rs := [6]) (by kernel_rfl) (by simp) ?_
        refine AllReadyH.cons (o_at HG 6 rfl) ?_ (AllReadyH.nil)
        · intro K' hK
          rw [if_pos (by kernel_rfl)]
          go_simp
          (with_reducible refine (HEQ1.out V HBV.out).mono ?_)
          rintro e X1 ⟨rfl, hb1⟩
          have HB1 := Lib.hid (bel_then HBV.out hb1)
          clear hb1
          refine hK.out _ _ trivial (fun _ => ?_)
          try simp only [Act.put, List.getElem_toArray, List.getElem_cons_zero, List.getElem_cons_succ, List.setIfInBounds_toArray, List.set_cons_zero, List.set_cons_succ]
          refine wpAnyH_take (i := 7) (v := ?_) (o_at HG 7 rfl) Gns (by kernel_rfl) (by kernel_rfl) (fun _ _ _ h => h) (Or.inl ⟨(by kernel_rfl), ?_⟩) (by first | trivial | assumption) ?_
          rotate_left
          · (intro w hSw; (try dsimp only at hSw); go_simp; try with_reducible rfl)
          try simp only [Act.put, List.getElem_toArray, List.getElem_cons_zero, List.getElem_cons_succ, List.setIfInBounds_toArray, List.set_cons_zero, List.set_cons_succ]
          refine wpAnyH_take (i := 8) (v := ?_) (o_at HG 8 rfl) Gns (by kernel_rfl) (by kernel_rfl) (fun _ _ _ h => h) (Or.inl ⟨(by kernel_rfl), ?_⟩) (by first | trivial | assumption) ?_
          rotate_left
          · (intro w hSw; (try dsimp only at hSw); go_simp; try with_reducible rfl)
          try simp only [Act.put, List.getElem_toArray, List.getElem_cons_zero, List.getElem_cons_succ, List.setIfInBounds_toArray, List.set_cons_zero, List.set_cons_succ]
          refine wpAnyH_take (i := 9) (v := ?_) (o_at HG 9 rfl) Gns (by kernel_rfl) (by kernel_rfl) (fun _ _ _ h => h) (Or.inl ⟨(by kernel_rfl), ?_⟩) (by first | trivial | assumption) ?_
          rotate_left
          · (intro w hSw; (try dsimp only at hSw); go_simp; try with_reducible rfl)
          try simp only [Act.put, List.getElem_toArray, List.getElem_cons_zero, List.getElem_cons_succ, List.setIfInBounds_toArray, List.set_cons_zero, List.set_cons_succ]
          refine wpAnyH_take (i := 10) (v := undef) (o_at HG 10 rfl) Gns (by kernel_rfl) (by kernel_rfl) (fun _ _ _ h => h) (Or.inr ⟨(by kernel_rfl), rfl⟩) (by first | trivial | assumption) ?_
          try simp only [Act.put, List.getElem_toArray, List.getElem_cons_zero, List.getElem_cons_succ, List.setIfInBounds_toArray, List.set_cons_zero, List.set_cons_succ]
          refine wpAnyH_take (i := 11) (v := undef) (o_at HG 11 rfl) Gns (by kernel_rfl) (by kernel_rfl) (fun _ _ _ h => h) (Or.inr ⟨(by kernel_rfl), rfl⟩) (by first | trivial | assumption) ?_
          try simp only [Act.put, List.getElem_toArray, List.getElem_cons_zero, List.getElem_cons_succ, List.setIfInBounds_toArray, List.set_cons_zero, List.set_cons_succ]
          refine wpAnyH_take (i := 12) (v := undef) (o_at HG 12 rfl) Gns (by kernel_rfl) (by kernel_rfl) (fun _ _ _ h => h) (Or.inr ⟨(by kernel_rfl), rfl⟩) (by first | trivial | assumption) ?_
          try simp only [Act.put, List.getElem_toArray, List.getElem_cons_zero, List.getElem_cons_succ, List.setIfInBounds_toArray, List.set_cons_zero, List.set_cons_succ]
          refine wpAnyH_take (i := 13) (v := undef) (o_at HG 13 rfl) Gns (by kernel_rfl) (by kernel_rfl) (fun _ _ _ h => h) (Or.inr ⟨(by kernel_rfl), rfl⟩) (by first | trivial | assumption) ?_
          try simp only [Act.put, List.getElem_toArray, List.getElem_cons_zero, List.getElem_cons_succ, List.setIfInBounds_toArray, List.set_cons_zero, List.set_cons_succ]
          refine wpAnyH_take (i := 14) (v := undef) (o_at HG 14 rfl) Gns (by kernel_rfl) (by kernel_rfl) (fun _ _ _ h => h) (Or.inr ⟨(by kernel_rfl), rfl⟩) (by first | trivial | assumption) ?_
          try simp only [Act.put, List.getElem_toArray, List.getElem_cons_zero, List.getElem_cons_succ, List.setIfInBounds_toArray, List.set_cons_zero, List.set_cons_succ]
          refine wpAnyH_take (i := 15) (v := undef) (o_at HG 15 rfl) Gns (by kernel_rfl) (by kernel_rfl) (fun _ _ _ h => h) (Or.inr ⟨(by kernel_rfl), rfl⟩) (by first | trivial | assumption) ?_
          try simp only [Act.put, List.getElem_toArray, List.getElem_cons_zero, List.getElem_cons_succ, List.setIfInBounds_toArray, List.set_cons_zero, List.set_cons_succ]
          refine wpAnyH_take (i := 16) (v := undef) (o_at HG 16 rfl) Gns (by kernel_rfl) (by kernel_rfl) (fun _ _ _ h => h) (Or.inr ⟨(by kernel_rfl), rfl⟩) (by first | trivial | assumption) ?_
          try simp only [Act.put, List.getElem_toArray, List.getElem_cons_zero, List.getElem_cons_succ, List.setIfInBounds_toArray, List.set_cons_zero, List.set_cons_succ]
          refine wpAnyH_take (i := 17) (v := undef) (o_at HG 17 rfl) Gns (by kernel_rfl) (by kernel_rfl) (fun _ _ _ h => h) (Or.inr ⟨(by kernel_rfl), rfl⟩) (by first | trivial | assumption) ?_
          try simp only [Act.put, List.getElem_toArray, List.getElem_cons_zero, List.getElem_cons_succ, List.setIfInBounds_toArray, List.set_cons_zero, List.set_cons_succ]
          refine wpAnyH_take (i := 18) (v := ?_) (o_at HG 18 rfl) Gns (by kernel_rfl) (by kernel_rfl) (fun _ _ _ h => h) (Or.inl ⟨(by kernel_rfl), ?_⟩) (by first | trivial | assumption) ?_
          rotate_left
          · (intro w hSw; (try dsimp only at hSw); go_simp; try with_reducible rfl)
          try simp only [Act.put, List.getElem_toArray, List.getElem_cons_zero, List.getElem_cons_succ, List.setIfInBounds_toArray, List.set_cons_zero, List.set_cons_succ]
          refine wpAnyH_done (by kernel_rfl) ?_ _
          go_wp2
          go_ret3
          exact ⟨HB1.out, .inl ⟨HN.out, rfl⟩⟩
      | true =>
        cases hq2 : decide (H.take 4 = sumN num 0 B) with
        | false =>
          have HN : Hid (headsN H = none) := Lib.hid (by unfold headsN; rw [if_neg HBIG.out, if_neg HNZ.out, if_neg (fun h => h (of_decide_eq_true hq1)), if_pos (by rw [← HNUM.out, ← HB.out]; exact of_decide_eq_false hq2)])
          rw [hq1] at HEQ1
          rw [hq2] at HEQ2
          clear hq1 hq2
          refine region_const (G := G43) (S := fun _ => True) (n := 19) (by kernel_rfl) (by kernel_rfl) rfl trivial (fun HG _ => ?_)
          have Gns := Gns43
          generalize w.drew = V at *
          simp only [Array.replicate_succ, Array.replicate_zero, List.push_toArray, List.nil_append, List.cons_append]
          refine wpAnyH_take (i := 0) (v := ?_) (o_at HG 0 rfl) Gns (by kernel_rfl) (by kernel_rfl) (fun _ _ _ h => h) (Or.inl ⟨(by kernel_rfl), ?_⟩) (by first | trivial | assumption) ?_
          rotate_left
          · (intro w hSw; (try dsimp only at hSw); go_simp; try with_reducible rfl)
          try simp only [Act.put, List.getElem_toArray, List.getElem_cons_zero, List.getElem_cons_succ, List.setIfInBounds_toArray, List.set_cons_zero, List.set_cons_succ]
          refine wpAnyH_take (i := 1) (v := ?_) (o_at HG 1 rfl) Gns (by kernel_rfl) (by kernel_rfl) (fun _ _ _ h => h) (Or.inl ⟨(by kernel_rfl), ?_⟩) (by first | trivial | assumption) ?_
          rotate_left
          · (intro w hSw; (try dsimp only at hSw); go_simp; try with_reducible rfl)
          try simp only [Act.put, List.getElem_toArray, List.getElem_cons_zero, List.getElem_cons_succ, List.setIfInBounds_toArray, List.set_cons_zero, List.set_cons_succ]
          refine wpAnyH_take (i := 2) (v := ?_) (o_at HG 2 rfl) Gns (by kernel_rfl) (by kernel_rfl) (fun _ _ _ h => h) (Or.inl ⟨(by kernel_rfl), ?_⟩) (by first | trivial | assumption) ?_
          rotate_left
          · (intro w hSw; (try dsimp only at hSw); go_simp; try with_reducible rfl)
          try simp only [Act.put, List.getElem_toArray, List.getElem_cons_zero, List.getElem_cons_succ, List.setIfInBounds_toArray, List.set_cons_zero, List.set_cons_succ]
          refine wpAnyH_take (i := 3) (v := ?_) (o_at HG 3 rfl) Gns (by kernel_rfl) (by kernel_rfl) (fun _ _ _ h => h) (Or.inl ⟨(by kernel_rfl), ?_⟩) (by first | trivial | assumption) ?_
          rotate_left
          · (intro w hSw; (try dsimp only at hSw); go_simp; try with_reducible rfl)
          try simp only [Act.put, List.getElem_toArray, List.getElem_cons_zero, List.getElem_cons_succ, List.setIfInBounds_toArray, List.set_cons_zero, List.set_cons_succ]
          refine wpAnyH_take (i := 4) (v := ?_) (o_at HG 4 rfl) Gns (by kernel_rfl) (by kernel_rfl) (fun _ _ _ h => h) (Or.inl ⟨(by kernel_rfl), ?_⟩) (by first | trivial | assumption) ?_
          rotate_left
          · (intro w hSw; (try dsimp only at hSw); go_simp; try with_reducible rfl)
          try simp only [Act.put, List.getElem_toArray, List.getElem_cons_zero, List.getElem_cons_succ, List.setIfInBounds_toArray, List.set_cons_zero, List.set_cons_succ]
          refine wpAnyH_take (i := 5) (v := ?_) (o_at HG 5 rfl) Gns (by kernel_rfl) (by kernel_rfl) (fun _ _ _ h => h) (Or.inl ⟨(by kernel_rfl), ?_⟩) (by first | trivial | assumption) ?_
          rotate_left
          · (intro w hSw; (try dsimp only at hSw); go_simp; try with_reducible rfl)
          try simp only [Act.put, List.getElem_toArray, List.getElem_cons_zero, List.getElem_cons_succ, List.setIfInBounds_toArray, List.set_cons_zero, List.set_cons_succ]
          refine wpAnyH_ready (rs := [6]) (by kernel_rfl) (by simp) ?_
          refine AllReadyH.cons (o_at HG 6 rfl) ?_ (AllReadyH.nil)
          · intro K' hK
            rw [if_pos (by kernel_rfl)]
            go_simp
            (with_reducible refine (HEQ1.out V HBV.out).mono ?_)
            rintro e X1 ⟨rfl, hb1⟩
            have HB1 := Lib.hid (bel_then HBV.out hb1)
            clear hb1
            refine hK.out _ _ trivial (fun _ => ?_)
            try simp only [Act.put, List.getElem_toArray, List.getElem_cons_zero, List.getElem_cons_succ, List.setIfInBounds_toArray, List.set_cons_zero, List.set_cons_succ]
            refine wpAnyH_take (i := 7) (v := ?_) (o_at HG 7 rfl) Gns (by kernel_rfl) (by kernel_rfl) (fun _ _ _ h => h) (Or.inl ⟨(by kernel_rfl), ?_⟩) (by first | trivial | assumption) ?_
            rotate_left
            · (intro w hSw; (try dsimp only at hSw); go_simp; try with_reducible rfl)
            try simp only [Act.put, List.getElem_toArray, List.getElem_cons_zero, List.getElem_cons_succ, List.setIfInBounds_toArray, List.set_cons_zero, List.set_cons_succ]
            refine wpAnyH_take (i := 8) (v := ?_) (o_at HG 8 rfl) Gns (by kernel_rfl) (by kernel_rfl) (fun _ _ _ h => h) (Or.inl ⟨(by kernel_rfl), ?_⟩) (by first | trivial | assumption) ?_
            rotate_left
            · (intro w hSw; (try dsimp only at hSw); go_simp; try with_reducible rfl)
            try simp only [Act.put, List.getElem_toArray, List.getElem_cons_zero, List.getElem_cons_succ, List.setIfInBounds_toArray, List.set_cons_zero, List.set_cons_succ]
            refine wpAnyH_take (i := 9) (v := ?_) (o_at HG 9 rfl) Gns (by kernel_rfl) (by kernel_rfl) (fun _ _ _ h => h) (Or.inl ⟨(by kernel_rfl), ?_⟩) (by first | trivial | assumption) ?_
            rotate_left
            · (intro w hSw; (try dsimp only at hSw); go_simp; try with_reducible rfl)
            try simp only [Act.put, List.getElem_toArray, List.getElem_cons_zero, List.getElem_cons_succ, List.setIfInBounds_toArray, List.set_cons_zero, List.set_cons_succ]
            refine wpAnyH_take (i := 10) (v := ?_) (o_at HG 10 rfl) Gns (by kernel_rfl) (by kernel_rfl) (fun _ _ _ h => h) (Or.inl ⟨(by kernel_rfl), ?_⟩) (by first | trivial | assumption) ?_
            rotate_left
            · (intro w hSw; (try dsimp only at hSw); go_simp; try with_reducible rfl)
            try simp only [Act.put, List.getElem_toArray, List.getElem_cons_zero, List.getElem_cons_succ, List.setIfInBounds_toArray, List.set_cons_zero, List.set_cons_succ]
            refine wpAnyH_take (i := 11) (v := ?_) (o_at HG 11 rfl) Gns (by kernel_rfl) (by kernel_rfl) (fun _ _ _ h => h) (Or.inl ⟨(by kernel_rfl), ?_⟩) (by first | trivial | assumption) ?_
            rotate_left
            · (intro w hSw; (try dsimp only at hSw); go_simp; try with_reducible rfl)
            try simp only [Act.put, List.getElem_toArray, List.getElem_cons_zero, List.getElem_cons_succ, List.setIfInBounds_toArray, List.set_cons_zero, List.set_cons_succ]
            refine wpAnyH_take (i := 12) (v := ?_) (o_at HG 12 rfl) Gns (by kernel_rfl) (by kernel_rfl) (fun _ _ _ h => h) (Or.inl ⟨(by kernel_rfl), ?_⟩) (by first | trivial | assumption) ?_
            rotate_left
            · (intro w hSw; (try dsimp only at hSw); go_simp; try with_reducible rfl)
            try simp only [Act.put, List.getElem_toArray, List.getElem_cons_zero, List.getElem_cons_succ, List.setIfInBounds_toArray, List.set_cons_zero, List.set_cons_succ]
            refine wpAnyH_take (i := 13) (v := ?_) (o_at HG 13 rfl) Gns (by kernel_rfl) (by kernel_rfl) (fun _ _ _ h => h) (Or.inl ⟨(by kernel_rfl), ?_⟩) (by first | trivial | assumption) ?_
            rotate_left
            · (intro w hSw; (try dsimp only at hSw); go_simp; try with_reducible rfl)
            try simp only [Act.put, List.getElem_toArray, List.getElem_cons_zero, List.getElem_cons_succ, List.setIfInBounds_toArray, List.set_cons_zero, List.set_cons_succ]
            refine wpAnyH_take (i := 14) (v := ?_) (o_at HG 14 rfl) Gns (by kernel_rfl) (by kernel_rfl) (fun _ _ _ h => h) (Or.inl ⟨(by kernel_rfl), ?_⟩) (by first | trivial | assumption) ?_
            rotate_left
            · (intro w hSw; (try dsimp only at hSw); go_simp; try with_reducible rfl)
            try simp only [Act.put, List.getElem_toArray, List.getElem_cons_zero, List.getElem_cons_succ, List.setIfInBounds_toArray, List.set_cons_zero, List.set_cons_succ]
            refine wpAnyH_ready (rs := [15]) (by kernel_rfl) (by simp) ?_
            refine AllReadyH.cons (o_at HG 15 rfl) ?_ (AllReadyH.nil)
            · intro K' hK
              rw [if_pos (by kernel_rfl)]
              go_simp
              (with_reducible refine (HSUM.out X1 HB1.out).mono ?_)
              rintro e X2 ⟨A2, c2, rfl, -, rb2, -, hb2⟩
              have HB2 := Lib.hid (bel_then HB1.out hb2)
              have RB2 := Lib.hid rb2
              clear hb2 rb2
              refine hK.out _ _ trivial (fun _ => ?_)
              try simp only [Act.put, List.getElem_toArray, List.getElem_cons_zero, List.getElem_cons_succ, List.setIfInBounds_toArray, List.set_cons_zero, List.set_cons_succ]
              refine wpAnyH_ready (rs := [16]) (by kernel_rfl) (by simp) ?_
              refine AllReadyH.cons (o_at HG 16 rfl) ?_ (AllReadyH.nil)
              · intro K' hK
                rw [if_pos (by kernel_rfl)]
                go_simp
                (with_reducible refine (HEQ2.out X2 A2 c2 HB2.out RB2.out).mono ?_)
                rintro e X3 ⟨rfl, hb3⟩
                have HB3 := Lib.hid (bel_then HB2.out hb3)
                clear hb3
                refine hK.out _ _ trivial (fun _ => ?_)
                try simp only [Act.put, List.getElem_toArray, List.getElem_cons_zero, List.getElem_cons_succ, List.setIfInBounds_toArray, List.set_cons_zero, List.set_cons_succ]
                refine wpAnyH_take (i := 17) (v := ?_) (o_at HG 17 rfl) Gns (by kernel_rfl) (by kernel_rfl) (fun _ _ _ h => h) (Or.inl ⟨(by kernel_rfl), ?_⟩) (by first | trivial | assumption) ?_
                rotate_left
                · (intro w hSw; (try dsimp only at hSw); go_simp; try with_reducible rfl)
                try simp only [Act.put, List.getElem_toArray, List.getElem_cons_zero, List.getElem_cons_succ, List.setIfInBounds_toArray, List.set_cons_zero, List.set_cons_succ]
                refine wpAnyH_take (i := 18) (v := ?_) (o_at HG 18 rfl) Gns (by kernel_rfl) (by kernel_rfl) (fun _ _ _ h => h) (Or.inl ⟨(by kernel_rfl), ?_⟩) (by first | trivial | assumption) ?_
                rotate_left
                · (intro w hSw; (try dsimp only at hSw); go_simp; try with_reducible rfl)
                try simp only [Act.put, List.getElem_toArray, List.getElem_cons_zero, List.getElem_cons_succ, List.setIfInBounds_toArray, List.set_cons_zero, List.set_cons_succ]
                refine wpAnyH_done (by kernel_rfl) ?_ _
                go_wp2
                go_ret3
                exact ⟨HB3.out, .inl ⟨HN.out, rfl⟩⟩
        | true =>
          have HN : Hid (headsN H = some (num, B)) := Lib.hid (by unfold headsN; rw [if_neg HBIG.out, if_neg HNZ.out, if_neg (fun h => h (of_decide_eq_true hq1)), if_neg (fun h => h (by rw [← HNUM.out, ← HB.out]; exact of_decide_eq_true hq2)), ← HNUM.out, ← HB.out])
          rw [hq1] at HEQ1
          rw [hq2] at HEQ2
          clear hq1 hq2
          refine region_const (G := G43) (S := fun _ => True) (n := 19) (by kernel_rfl) (by kernel_rfl) rfl trivial (fun HG _ => ?_)
          have Gns := Gns43
          generalize w.drew = V at *
          simp only [Array.replicate_succ, Array.replicate_zero, List.push_toArray, List.nil_append, List.cons_append]
          refine wpAnyH_take (i := 0) (v := ?_) (o_at HG 0 rfl) Gns (by kernel_rfl) (by kernel_rfl) (fun _ _ _ h => h) (Or.inl ⟨(by kernel_rfl), ?_⟩) (by first | trivial | assumption) ?_
          rotate_left
          · (intro w hSw; (try dsimp only at hSw); go_simp; try with_reducible rfl)
          try simp only [Act.put, List.getElem_toArray, List.getElem_cons_zero, List.getElem_cons_succ, List.setIfInBounds_toArray, List.set_cons_zero, List.set_cons_succ]
          refine wpAnyH_take (i := 1) (v := ?_) (o_at HG 1 rfl) Gns (by kernel_rfl) (by kernel_rfl) (fun _ _ _ h => h) (Or.inl ⟨(by kernel_rfl), ?_⟩) (by first | trivial | assumption) ?_
          rotate_left
          · (intro w hSw; (try dsimp only at hSw); go_simp; try with_reducible rfl)
          try simp only [Act.put, List.getElem_toArray, List.getElem_cons_zero, List.getElem_cons_succ, List.setIfInBounds_toArray, List.set_cons_zero, List.set_cons_succ]
          refine wpAnyH_take (i := 2) (v := ?_) (o_at HG 2 rfl) Gns (by kernel_rfl) (by kernel_rfl) (fun _ _ _ h => h) (Or.inl ⟨(by kernel_rfl), ?_⟩) (by first | trivial | assumption) ?_
          rotate_left
          · (intro w hSw; (try dsimp only at hSw); go_simp; try with_reducible rfl)
          try simp only [Act.put, List.getElem_toArray, List.getElem_cons_zero, List.getElem_cons_succ, List.setIfInBounds_toArray, List.set_cons_zero, List.set_cons_succ]
          refine wpAnyH_take (i := 3) (v := ?_) (o_at HG 3 rfl) Gns (by kernel_rfl) (by kernel_rfl) (fun _ _ _ h => h) (Or.inl ⟨(by kernel_rfl), ?_⟩) (by first | trivial | assumption) ?_
          rotate_left
          · (intro w hSw; (try dsimp only at hSw); go_simp; try with_reducible rfl)
          try simp only [Act.put, List.getElem_toArray, List.getElem_cons_zero, List.getElem_cons_succ, List.setIfInBounds_toArray, List.set_cons_zero, List.set_cons_succ]
          refine wpAnyH_take (i := 4) (v := ?_) (o_at HG 4 rfl) Gns (by kernel_rfl) (by kernel_rfl) (fun _ _ _ h => h) (Or.inl ⟨(by kernel_rfl), ?_⟩) (by first | trivial | assumption) ?_
          rotate_left
          · (intro w hSw; (try dsimp only at hSw); go_simp; try with_reducible rfl)
          try simp only [Act.put, List.getElem_toArray, List.getElem_cons_zero, List.getElem_cons_succ, List.setIfInBounds_toArray, List.set_cons_zero, List.set_cons_succ]
          refine wpAnyH_take (i := 5) (v := ?_) (o_at HG 5 rfl) Gns (by kernel_rfl) (by kernel_rfl) (fun _ _ _ h => h) (Or.inl ⟨(by kernel_rfl), ?_⟩) (by first | trivial | assumption) ?_
          rotate_left
          · (intro w hSw; (try dsimp only at hSw); go_simp; try with_reducible rfl)
          try simp only [Act.put, List.getElem_toArray, List.getElem_cons_zero, List.getElem_cons_succ, List.setIfInBounds_toArray, List.set_cons_zero, List.set_cons_succ]
          refine wpAnyH_ready (rs := [6]) (by kernel_rfl) (by simp) ?_
          refine AllReadyH.cons (o_at HG 6 rfl) ?_ (AllReadyH.nil)
          · intro K' hK
            rw [if_pos (by kernel_rfl)]
            go_simp
            (with_reducible refine (HEQ1.out V HBV.out).mono ?_)
            rintro e X1 ⟨rfl, hb1⟩
            have HB1 := Lib.hid (bel_then HBV.out hb1)
            clear hb1
            refine hK.out _ _ trivial (fun _ => ?_)
            try simp only [Act.put, List.getElem_toArray, List.getElem_cons_zero, List.getElem_cons_succ, List.setIfInBounds_toArray, List.set_cons_zero, List.set_cons_succ]
            refine wpAnyH_take (i := 7) (v := ?_) (o_at HG 7 rfl) Gns (by kernel_rfl) (by kernel_rfl) (fun _ _ _ h => h) (Or.inl ⟨(by kernel_rfl), ?_⟩) (by first | trivial | assumption) ?_
            rotate_left
            · (intro w hSw; (try dsimp only at hSw); go_simp; try with_reducible rfl)
            try simp only [Act.put, List.getElem_toArray, List.getElem_cons_zero, List.getElem_cons_succ, List.setIfInBounds_toArray, List.set_cons_zero, List.set_cons_succ]
            refine wpAnyH_take (i := 8) (v := ?_) (o_at HG 8 rfl) Gns (by kernel_rfl) (by kernel_rfl) (fun _ _ _ h => h) (Or.inl ⟨(by kernel_rfl), ?_⟩) (by first | trivial | assumption) ?_
            rotate_left
            · (intro w hSw; (try dsimp only at hSw); go_simp; try with_reducible rfl)
            try simp only [Act.put, List.getElem_toArray, List.getElem_cons_zero, List.getElem_cons_succ, List.setIfInBounds_toArray, List.set_cons_zero, List.set_cons_succ]
            refine wpAnyH_take (i := 9) (v := ?_) (o_at HG 9 rfl) Gns (by kernel_rfl) (by kernel_rfl) (fun _ _ _ h => h) (Or.inl ⟨(by kernel_rfl), ?_⟩) (by first | trivial | assumption) ?_
            rotate_left
            · (intro w hSw; (try dsimp only at hSw); go_simp; try with_reducible rfl)
            try simp only [Act.put, List.getElem_toArray, List.getElem_cons_zero, List.getElem_cons_succ, List.setIfInBounds_toArray, List.set_cons_zero, List.set_cons_succ]
            refine wpAnyH_take (i := 10) (v := ?_) (o_at HG 10 rfl) Gns (by kernel_rfl) (by kernel_rfl) (fun _ _ _ h => h) (Or.inl ⟨(by kernel_rfl), ?_⟩) (by first | trivial | assumption) ?_
            rotate_left
            · (intro w hSw; (try dsimp only at hSw); go_simp; try with_reducible rfl)
            try simp only [Act.put, List.getElem_toArray, List.getElem_cons_zero, List.getElem_cons_succ, List.setIfInBounds_toArray, List.set_cons_zero, List.set_cons_succ]
            refine wpAnyH_take (i := 11) (v := ?_) (o_at HG 11 rfl) Gns (by kernel_rfl) (by kernel_rfl) (fun _ _ _ h => h) (Or.inl ⟨(by kernel_rfl), ?_⟩) (by first | trivial | assumption) ?_
            rotate_left
            · (intro w hSw; (try dsimp only at hSw); go_simp; try with_reducible rfl)
            try simp only [Act.put, List.getElem_toArray, List.getElem_cons_zero, List.getElem_cons_succ, List.setIfInBounds_toArray, List.set_cons_zero, List.set_cons_succ]
            refine wpAnyH_take (i := 12) (v := ?_) (o_at HG 12 rfl) Gns (by kernel_rfl) (by kernel_rfl) (fun _ _ _ h => h) (Or.inl ⟨(by kernel_rfl), ?_⟩) (by first | trivial | assumption) ?_
            rotate_left
            · (intro w hSw; (try dsimp only at hSw); go_simp; try with_reducible rfl)
            try simp only [Act.put, List.getElem_toArray, List.getElem_cons_zero, List.getElem_cons_succ, List.setIfInBounds_toArray, List.set_cons_zero, List.set_cons_succ]
            refine wpAnyH_take (i := 13) (v := ?_) (o_at HG 13 rfl) Gns (by kernel_rfl) (by kernel_rfl) (fun _ _ _ h => h) (Or.inl ⟨(by kernel_rfl), ?_⟩) (by first | trivial | assumption) ?_
            rotate_left
            · (intro w hSw; (try dsimp only at hSw); go_simp; try with_reducible rfl)
            try simp only [Act.put, List.getElem_toArray, List.getElem_cons_zero, List.getElem_cons_succ, List.setIfInBounds_toArray, List.set_cons_zero, List.set_cons_succ]
            refine wpAnyH_take (i := 14) (v := ?_) (o_at HG 14 rfl) Gns (by kernel_rfl) (by kernel_rfl) (fun _ _ _ h => h) (Or.inl ⟨(by kernel_rfl), ?_⟩) (by first | trivial | assumption) ?_
            rotate_left
            · (intro w hSw; (try dsimp only at hSw); go_simp; try with_reducible rfl)
            try simp only [Act.put, List.getElem_toArray, List.getElem_cons_zero, List.getElem_cons_succ, List.setIfInBounds_toArray, List.set_cons_zero, List.set_cons_succ]
            refine wpAnyH_ready (rs := [15]) (by kernel_rfl) (by simp) ?_
            refine AllReadyH.cons (o_at HG 15 rfl) ?_ (AllReadyH.nil)
            · intro K' hK
              rw [if_pos (by kernel_rfl)]
              go_simp
              (with_reducible refine (HSUM.out X1 HB1.out).mono ?_)
              rintro e X2 ⟨A2, c2, rfl, -, rb2, -, hb2⟩
              have HB2 := Lib.hid (bel_then HB1.out hb2)
              have RB2 := Lib.hid rb2
              clear hb2 rb2
              refine hK.out _ _ trivial (fun _ => ?_)
              try simp only [Act.put, List.getElem_toArray, List.getElem_cons_zero, List.getElem_cons_succ, List.setIfInBounds_toArray, List.set_cons_zero, List.set_cons_succ]
              refine wpAnyH_ready (rs := [16]) (by kernel_rfl) (by simp) ?_
              refine AllReadyH.cons (o_at HG 16 rfl) ?_ (AllReadyH.nil)
              · intro K' hK
                rw [if_pos (by kernel_rfl)]
                go_simp
                (with_reducible refine (HEQ2.out X2 A2 c2 HB2.out RB2.out).mono ?_)
                rintro e X3 ⟨rfl, hb3⟩
                have HB3 := Lib.hid (bel_then HB2.out hb3)
                clear hb3
                refine hK.out _ _ trivial (fun _ => ?_)
                try simp only [Act.put, List.getElem_toArray, List.getElem_cons_zero, List.getElem_cons_succ, List.setIfInBounds_toArray, List.set_cons_zero, List.set_cons_succ]
                refine wpAnyH_take (i := 17) (v := ?_) (o_at HG 17 rfl) Gns (by kernel_rfl) (by kernel_rfl) (fun _ _ _ h => h) (Or.inl ⟨(by kernel_rfl), ?_⟩) (by first | trivial | assumption) ?_
                rotate_left
                · (intro w hSw; (try dsimp only at hSw); go_simp; try with_reducible rfl)
                try simp only [Act.put, List.getElem_toArray, List.getElem_cons_zero, List.getElem_cons_succ, List.setIfInBounds_toArray, List.set_cons_zero, List.set_cons_succ]
                refine wpAnyH_take (i := 18) (v := ?_) (o_at HG 18 rfl) Gns (by kernel_rfl) (by kernel_rfl) (fun _ _ _ h => h) (Or.inl ⟨(by kernel_rfl), ?_⟩) (by first | trivial | assumption) ?_
                rotate_left
                · (intro w hSw; (try dsimp only at hSw); go_simp; try with_reducible rfl)
                try simp only [Act.put, List.getElem_toArray, List.getElem_cons_zero, List.getElem_cons_succ, List.setIfInBounds_toArray, List.set_cons_zero, List.set_cons_succ]
                refine wpAnyH_done (by kernel_rfl) ?_ _
                go_wp2
                go_ret3
                exact ⟨HB3.out, .inr ⟨num, B, some ⟨g, 64, none⟩, c - 64, HN.out, by rw [HBL.out]; rfl, ⟨by rw [HBL.out]; omega, fun e => by cases e⟩, RBB.out _ HB3.out⟩⟩
end Go.Proofs.Ytdldclakkplliaa
