/- The walk of sector: a copy of what is safe. Conditions: none. -/
import Derived.Test.YtdldclakkplliaaNew
import Derived.Laws.CopyOwn
namespace Go.Proofs.Ytdldclakkplliaa
set_option linter.unusedVariables false
set_option linter.unusedSimpArgs false
open Go.RowKit

theorem size5 : (Try.prog.info? 5).map (·.size) = some 1 := by kernel_rfl
def secB : Option Wr → List UInt8
  | none => List.replicate 64 0
  | some s => s.b
theorem OB.obj {w : World} {base : Nat} {e : TypeId} {g n c : Nat} {bs : List UInt8} (h : OB w base e (.slice (some ⟨g, 0, none⟩) n c) bs) : ∃ cur, w.heap[g]? = some (.cells cur e (0, 0)) ∧ bs.length = n ∧ n ≤ c ∧ c ≤ maxLen ∧ cur.size = c ∧ cur.toList.take n = cellsOf bs ∧ base ≤ g := by
  have hr := h.row
  rcases hr.2 with ⟨h1, _⟩ | ⟨g', cap, cur, h1, hb, hh, h2, h3, h4, h5⟩
  · cases h1
  · simp only [Value.slice.injEq, Option.some.injEq, Addr.mk.injEq, and_true, true_and] at h1
    obtain ⟨rfl, rfl, rfl⟩ := h1
    refine ⟨cur, hh, rfl, h2, h3, by omega, ?_, hb⟩
    rw [Nat.mul_one] at h5
    exact h5
theorem cellsOf_take (bs : List UInt8) (k : Nat) : cellsOf (bs.take k) = (cellsOf bs).take k := by simp [cellsOf, List.map_take]
theorem cellsOf_drop (bs : List UInt8) (k : Nat) : cellsOf (bs.drop k) = (cellsOf bs).drop k := by simp [cellsOf, List.map_drop]
set_option maxRecDepth 100000 in
/-- Bytes are copied into a row of one's own, from a place on. -/
theorem copy_run {w : World} {base g n c o dc sc : Nat} {bs ys : List UInt8} {A : Option Addr} (h : OB w base 5 (.slice (some ⟨g, 0, none⟩) n c) bs) (hy : RB w A ys) (ho : o ≤ n) (k : Nat) (hk : k = Nat.min ys.length (n - o)) :
    ∃ w', (Builtin.copy_ #[22, 22] 3 #[.slice (some ⟨g, o, none⟩) (n - o) dc, .slice A ys.length sc]).run Try.prog w = .ok (goInt k) w' ∧ OB w' base 5 (.slice (some ⟨g, 0, none⟩) n c) (bs.take o ++ ys.take k ++ bs.drop (o + k)) ∧ w.grownBy w' (some g) := by
  obtain ⟨cur, hg, hl, hn, hc, hs, ht, hb⟩ := h.obj
  rcases Nat.eq_zero_or_pos k with h0 | h0
  · refine ⟨w, ?_, ?_, ⟨rfl, rfl, rfl, Nat.le_refl _, fun _ _ _ => rfl⟩⟩
    · rw [h0]
      exact run_copy_none (P := Try.prog) w 22 22 3 5 _ _ _ _ _ _ Try.underlying22 size5 (by omega)
    · rw [h0, List.take_zero, List.append_nil, Nat.add_zero, List.take_append_drop]
      exact h
  · have hkl : k ≤ ys.length := by rw [hk]; exact Nat.min_le_left _ _
    have hkn : k ≤ n - o := by rw [hk]; exact Nat.min_le_right _ _
    obtain ⟨ad, rfl, hcl⟩ := hy.cells (by omega)
    have hyl : (cellsOf (ys.take k)).length = k := by rw [cellsOf_length, List.length_take]; omega
    have hcur : cur.toList.length = c := by simpa using hs
    have hrun := run_copy_row (P := Try.prog) w 22 22 3 5 g o (n - o) dc ad ys.length sc cur 5 (cellsOf (ys.take k)) Try.underlying22 size5 hg (by rw [hyl]; exact hk) (fun j v hv => by
      have hj := (List.getElem?_eq_some_iff.1 hv).1
      rw [hyl] at hj
      rw [cellsOf_take, List.getElem?_take, if_pos hj, cellsOf_get ys j (by omega)] at hv
      cases hv
      exact hcl j (by omega)) (by rw [hyl]; omega) (cellsOf_one _)
    rw [hyl] at hrun
    refine ⟨_, hrun, ?_, ⟨rfl, rfl, rfl, by simp, fun i _ hi => setRow_other w g i _ (fun e => hi (by rw [e]))⟩⟩
    have hlen : (bs.take o ++ ys.take k ++ bs.drop (o + k)).length = n := by simp only [List.length_append, List.length_take, List.length_drop]; omega
    refine OB.mk' ?_
    rw [hlen]
    refine ⟨by rw [cellsOf_length, hlen, Nat.mul_one], .inr ⟨g, c, _, rfl, hb, setRow_heap w g cur _ 5 _ hg, hn, hc, ?_, ?_⟩⟩
    · simp only [List.size_toArray, List.length_append, List.length_take, List.length_drop, hyl, hcur, Nat.mul_one]
      omega
    · simp only [Nat.mul_one]
      rw [cellsOf_append, cellsOf_append, cellsOf_take bs, cellsOf_drop bs, ← ht, List.take_take, Nat.min_eq_left ho, List.drop_take]
      rw [List.take_append, List.take_of_length_le (by rw [List.length_append, List.length_take, hyl]; omega)]
      congr 2
      rw [List.length_append, List.length_take, hyl]
      omega

set_option maxRecDepth 100000 in
set_option maxHeartbeats 1000000 in
theorem sector_any (mb m : Nat) (f : Int → Option Wr) (k : Int) (w : World) (h : MapAt w mb m f) (hk : -9223372036854775808 ≤ k ∧ k ≤ 9223372036854775807) (hs : ∀ s, f k = some s → SV s.A s.b.length s.c ∧ RB w s.A s.b ∧ s.b.length = 64) :
    Calls Try.prog 57 #[.map (some mb), .int .i64 k] w fun e w' => ∃ g, e = .returned (.slice (some ⟨g, 0, none⟩) 64 64) ∧ OB w' w.heap.size 5 (.slice (some ⟨g, 0, none⟩) 64 64) (secB (f k)) ∧ Below w.heap.size w w' := by
  obtain ⟨A, ys, c, hv, hrb, hsec⟩ : ∃ A ys c, secV (f k) = .slice A (List.length (α := UInt8) ys) c ∧ RB w A ys ∧ ys.take 64 ++ (List.replicate 64 0).drop ys.length = secB (f k) ∧ ys.length ≤ 64 := by
    cases hf : f k with
    | none => exact ⟨none, [], 0, rfl, RB.nil _ _, rfl, by simp⟩
    | some s => 
      obtain ⟨h1, h2, h3⟩ := hs s hf
      exact ⟨s.A, s.b, s.c, rfl, h2, by simp [secB, h3, List.take_of_length_le], by omega⟩
  obtain ⟨hsec, hy64⟩ := hsec
  have HM := Lib.hid h
  have HV := Lib.hid hv
  have HRB := Lib.hid hrb
  have HSEC := Lib.hid hsec
  obtain ⟨q, hq⟩ : ∃ q, q = ys.length := ⟨_, rfl⟩
  rw [← hq] at HV hy64 HSEC
  have HQ := Lib.hid hq
  clear h hs hv hrb hsec hq
  go_enter Try.func57, Try.ntmps57
  go_wp2_with (first | (at_make; go_loud (refine wp_make_at rfl _ _ 22 5 rfl Try.underlying22 info5 _ _ _ _ 64 rfl rfl (by omega) (by omega) (by omega) ?_); intro w1 ho hb; have HB := Lib.hid hb; have HM1 := Lib.hid (HM.out.keep (hb.block mb HM.out.lt)); obtain ⟨w2, hrun, ho2, hg2⟩ := copy_run (o := 0) (dc := 64) (sc := c) ho (HRB.out.below hb) (Nat.zero_le _) (Nat.min ys.length (64 - 0)) rfl; rw [← HQ.out] at hrun; have HO2 := Lib.hid ho2; have HG2 := Lib.hid hg2; clear ho hb ho2 hg2) | (at_lookup; go_loud (refine wp_lookup rfl _ _ rfl mb m f rfl HM1.out k rfl hk _ HV.out ?_)) | fail)
  go_ret
  refine ⟨_, rfl, ?_, HB.out.grown HG2.out HB.out.size (fun j e => by cases e; exact Nat.le_refl _)⟩
  have := HO2.out
  rw [List.take_zero, List.nil_append, Nat.zero_add] at this
  have e : Nat.min ys.length (64 - 0) = ys.length := by have := HQ.out; exact Nat.min_eq_left (by omega)
  rw [e] at this
  have e2 : ys.take ys.length = ys.take 64 := by rw [List.take_of_length_le (Nat.le_refl _), List.take_of_length_le (by have := HQ.out; omega)]
  rw [e2, ← HQ.out, HSEC.out] at this
  exact this
end Go.Proofs.Ytdldclakkplliaa
