/- The contract of slices.Backward over a disk's writes. Conditions: none. -/
import Derived.RangeFuncNested
import Derived.RangeFuncLeaves
import Derived.RangeFuncCalls
import Derived.RangeFuncBound
import Derived.Shelf.Abstract
import Derived.OwnWalkIn
import Derived.TacticsInMore
import Derived.LoopNIn
import Derived.LoopIn
import Derived.Test.YtdldclakkplliaaFlush
namespace Go.Proofs.Ytdldclakkplliaa
set_option linter.unusedVariables false
set_option linter.unusedSimpArgs false
open Go.RowKit Go.Shelf

attribute [local go_sem] Oper.semAt_some

def dftW : Wr := ⟨0, [], none, 0⟩
def wAgg (s : Wr) : Value := .agg #[.int .i64 s.at_, .slice s.A s.b.length s.c]
/-- What a round is handed: the place, and the write. -/
def elB (ws : List Wr) (i : Nat) : Wr := ws.getD i dftW
def encB (ws : List Wr) (i : Nat) : Array Value := #[.int .i64 i, wAgg (elB ws i)]
def upto (f : Nat → Nat) (k : Nat) : List Nat := (List.range k).map f
theorem upto_succ (f : Nat → Nat) (k : Nat) : upto f (k + 1) = upto f k ++ [f k] := by simp [upto, List.range_succ]
theorem upto_length (f : Nat → Nat) (k : Nat) : (upto f k).length = k := by simp [upto]
/-- The places from the last on. -/
def down (n : Nat) (j : Nat) : Nat := n - 1 - j

theorem back_any (A : Option Addr) (n c : Nat) (w : World) : Calls Try.prog 61 #[.slice A n c] w fun e w' => e = .returned (.func (.func 74) #[] #[.pointer (some ⟨w.heap.size, 0, none⟩)]) ∧ w' = w.alloc (.cells #[.slice A n c] 77) := by
  go_enter Try.func61, Try.ntmps61
  go_wp2
  go_ret
  exact ⟨rfl, rfl⟩

set_option maxRecDepth 100000 in
set_option maxHeartbeats 2000000 in
theorem back1_in (n : Nat) (hn : 1 ≤ n) (l Bs n₀ c : Nat) (A : Option Addr) (ws : List Wr) (hl : ws.length ≤ 1000000) (hA : ∀ ad, A = some ad → ad.block < n₀) (hB : Bs < n₀) (J Jx : List Nat → World → Prop)
    (hY : ∀ pre x W, J pre W → pre.length < ws.length → YieldAt Fence.wide (n - 1) Try.prog l (encB ws x) W fun e W' =>
      (e = .returned (.bool true) ∧ J (pre ++ [x]) W' ∧ Below n₀ W W') ∨ (e = .returned (.bool false) ∧ Jx (pre ++ [x]) W'))
    (W : World) (hBs : W.cell? ⟨Bs, 0, none⟩ = some (.slice A ws.length c)) (hc : FW W A c ws) (h0 : J [] W) :
    CallsIn Fence.wide n Try.prog 74 #[.func (.yield l) #[] #[], .pointer (some ⟨Bs, 0, none⟩)] W fun e W' => (∃ v, e = .returned v) ∧
      ((∃ ys, ys = upto (down ws.length) ws.length ∧ J ys W') ∨ (∃ pre, (∃ k, k ≤ ws.length ∧ pre = upto (down ws.length) k) ∧ Jx pre W')) := by
  have HF := Lib.hid hc
  obtain ⟨m, hm⟩ : ∃ m, m = ws.length := ⟨_, rfl⟩
  have HM := Lib.hid hm
  rw [← hm] at hBs hl
  rw [← hm]
  rw [← hm] at hY
  clear hc hm
  refine callsIn_of_wp Try.func74 rfl trivial ?_ rfl
  simp only [Try.ntmps74, List.size_toArray, List.length_cons, List.length_nil, Nat.reduceAdd, Nat.reduceSub, Array.replicate_succ, Array.replicate_zero, List.push_toArray, List.append_toArray, List.nil_append, List.cons_append]
  gi_wp2
  gi_loopw [3] (fun i wr => ∃ k : Nat, k ≤ m ∧ ((k < m ∧ i = .int .i64 (down m k : Nat)) ∨ (k = m ∧ i = .int .i64 (-1))) ∧ J (upto (down m) k) wr ∧ Below n₀ W wr)
    (fun i _ => (intOf i + 1).toNat)
  case atStart =>
    refine ⟨0, Nat.zero_le _, ?_, h0, Below.refl _ _⟩
    rcases Nat.eq_zero_or_pos m with h | h
    · subst h; exact .inr ⟨rfl, by rfl⟩
    · refine .inl ⟨h, int_eq ?_⟩
      unfold down
      omega
  case round =>
    obtain ⟨k, hk, hi, hJs, hnx⟩ := hrel
    rcases hi with ⟨hlt, rfl⟩ | ⟨rfl, rfl⟩
    · obtain ⟨j, hj⟩ : ∃ j, j = down m k := ⟨_, rfl⟩
      have hjm : j < m := by rw [hj]; unfold down; omega
      have hjk : j + k + 1 = m := by rw [hj]; unfold down; omega
      obtain ⟨s, hs⟩ : ∃ s, s = elB ws j := ⟨_, rfl⟩
      have hs2 : ws[j]? = some s := by rw [hs, elB, List.getD_eq_getElem?_getD, List.getElem?_eq_getElem (by rw [← HM.out]; exact hjm)]; rfl
      obtain ⟨gg, rfl, ha0, ha1⟩ := HF.out.at_ j s hs2
      have hgn := hA _ rfl
      have d0 : wr.cell? ⟨gg, j * 2, none⟩ = some (.int .i64 s.at_) := (hnx.cell (p := ⟨gg, j * 2, none⟩) hgn).trans ha0
      have d1 : wr.cell? ⟨gg, j * 2 + 1, none⟩ = some (.slice s.A s.b.length s.c) := (hnx.cell (p := ⟨gg, j * 2 + 1, none⟩) hgn).trans ha1
      have d2 : wr.cell? ⟨Bs, 0, none⟩ = some (.slice (some ⟨gg, 0, none⟩) m c) := (hnx.cell (p := ⟨Bs, 0, none⟩) hB).trans hBs
      obtain ⟨fn, tmps, assign, body, hy, hR⟩ := hY _ j wr hJs (by rw [upto_length]; exact hlt)
      rw [← hj]
      simp only [encB, ← hs, wAgg] at hy
      have HK := Lib.hid (show upto (down m) k ++ [j] = upto (down m) (k + 1) by rw [upto_succ, hj])
      have HJ := Lib.hid hj
      clear hj hs hs2 ha0 ha1
      gi_wp2
      refine hR.mono ?_
      rintro e W3 (⟨rfl, hJ3, hk3⟩ | ⟨rfl, hJx3⟩)
      · gi_wp2
        go_roundw
        case rel =>
          refine ⟨k + 1, by omega, ?_, by rw [← HK.out]; exact hJ3, hnx.trans hk3⟩
          rcases Nat.eq_zero_or_pos j with h | h
          · exact .inr ⟨by omega, int_eq (by subst h; rfl)⟩
          · exact .inl ⟨by omega, int_eq (by unfold down; omega)⟩
        case measure => simp [intOf]
      · gi_wp2
        refine bodyPost_ret (results_none rfl _ _ _) rfl ?_
        exact ⟨⟨_, rfl⟩, .inr ⟨_, ⟨k + 1, by omega, HK.out⟩, hJx3⟩⟩
    · gi_wp2
      go_end0
      exact ⟨⟨_, rfl⟩, .inl ⟨_, rfl, hJs⟩⟩

theorem back_stops (n : Nat) (hn : 1 ≤ n) (Bs n₀ c : Nat) (A : Option Addr) (ws : List Wr) (hl : ws.length ≤ 1000000) (w : World) (hA : ∀ ad, A = some ad → ad.block < n₀) (hB : Bs < n₀) (hn₀ : n₀ ≤ w.heap.size) (hBs : w.cell? ⟨Bs, 0, none⟩ = some (.slice A ws.length c)) (hc : FW w A c ws) :
    SeqStopsK Fence.wide n Try.prog 74 #[.pointer (some ⟨Bs, 0, none⟩)] (encB ws) (Below n₀) (fun ys => ys = upto (down ws.length) ws.length) (fun pre => ∃ k, k ≤ ws.length ∧ pre = upto (down ws.length) k) ws.length w := fun l J Jx W hW _ _ hY h0 =>
  back1_in n hn l Bs n₀ c A ws hl hA hB J Jx hY W ((hW.cell (p := ⟨Bs, 0, none⟩) (by show Bs < w.heap.size; omega)).trans hBs) (hc.below hW) h0
end Go.Proofs.Ytdldclakkplliaa
