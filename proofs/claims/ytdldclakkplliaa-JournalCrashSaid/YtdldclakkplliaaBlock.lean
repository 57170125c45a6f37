/- The walk of Block and block: a sector of a number. Conditions: none. -/
import Derived.Test.YtdldclakkplliaaHelps
namespace Go.Proofs.Ytdldclakkplliaa
set_option linter.unusedVariables false
set_option linter.unusedSimpArgs false
open Go.RowKit

set_option maxHeartbeats 1000000 in
theorem block_any (size : Nat) (n : Int) (w : World) (hs : size ≤ 100000) :
    Calls Try.prog 60 #[.int .i64 size, .int .i64 n] w fun e w' => e = .returned (.string ⟨(blk size n).toArray⟩) ∧ Below w.heap.size w w' := by
  go_enter Try.func60, Try.ntmps60
  go_wp2_with (first | (at_make; go_loud (refine wp_make rfl _ _ 22 5 rfl Try.underlying22 info5 _ _ size rfl rfl (by omega) ?_); intro w1 ho hb; have HO := Lib.hid ho; have HB := Lib.hid hb; clear ho hb) | fail)
  go_loopw [6] (fun u6 w' => ∃ (k : Nat), k ≤ size ∧ u6 = .int .i64 k ∧ Hid (OB w' w.heap.size 5 (.slice (some ⟨w.heap.size, 0, none⟩) size size) ((List.range k).map (blkAt n) ++ List.replicate (size - k) 0)) ∧ Hid (Below w.heap.size w w')) (fun u6 _ => size - (intOf u6).toNat)
  case atStart => exact ⟨0, Nat.zero_le _, rfl, HO, HB⟩
  case round =>
    clear HO HB
    obtain ⟨k, hk, rfl, HO, HB⟩ := hrel
    by_cases hlt : k < size
    · have hlen : ((List.range k).map (blkAt n) ++ List.replicate (size - k) 0).length = size := by simp; omega
      obtain ⟨bs, hbs⟩ : ∃ bs, bs = (List.range k).map (blkAt n) ++ List.replicate (size - k) (0 : UInt8) := ⟨_, rfl⟩
      rw [← hbs] at hlen HO
      have HBS := Lib.hid hbs
      have ho2 : OB wr w.heap.size 5 (.slice (some ⟨w.heap.size, 0, none⟩) bs.length size) bs := by rw [hlen]; exact HO.out
      obtain ⟨A0, c0, e0, -, hrb⟩ := ho2.reads
      cases e0
      obtain ⟨ad, ea, hcell⟩ := hrb.at_ k (by omega)
      cases ea
      rw [add0] at hcell
      have hset := fun c => OB.set ho2 k c
      have HSET := Lib.hid hset
      have hfz : wr.frozen? ⟨w.heap.size, k, none⟩ = false := by
        rcases ho2.row.2 with ⟨h1, _⟩ | ⟨g, cap, cur, h1, _, hh, _⟩
        · cases h1
        · cases h1; exact frozen_of_row wr _ k _ _ hh
      have HRD := Lib.hid (fun W => round_any (wrap64 (wrap64 (n * 7) + k)) 26 W (by unfold wrap64; omega) (by unfold wrap64; omega) (by omega) (by omega))
      clear hset ho2 hrb hbs
      go_wp2_with fail
      refine (HRD.out _).mono ?_
      rintro e w' ⟨rfl, rfl⟩
      obtain ⟨r, hr⟩ := Int.eq_ofNat_of_zero_le (Int.emod_nonneg (wrap64 (wrap64 (n * 7) + k)) (by omega : (26 : Int) ≠ 0))
      have hr26 : (wrap64 (wrap64 (n * 7) + k)) % 26 < 26 := Int.emod_lt_of_pos _ (by omega)
      have hcc : (blkAt n k).toNat = 97 + r := by
        unfold blkAt
        rw [hr, UInt8.toNat_ofNat']
        rw [hr] at hr26
        have : ((r : Int)).toNat = r := by simp
        rw [this]
        omega
      have HCC := Lib.hid hcc
      rw [hr] at hr26 ⊢
      clear hr hcc
      go_wp2
      go_roundw
      case rel =>
        have hs := HSET.out (blkAt n k)
        rw [HCC.out, hlen] at hs
        have e1 : bs.set k (blkAt n k) = (List.range (k + 1)).map (blkAt n) ++ List.replicate (size - (k + 1)) 0 := by
          rw [HBS.out, List.set_append_right _ _ (by simp)]
          simp only [List.length_map, List.length_range, Nat.sub_self]
          obtain ⟨m, hm⟩ : ∃ m, size - k = m + 1 := ⟨size - k - 1, by omega⟩
          rw [hm, List.replicate_succ, List.set_cons_zero, show size - (k + 1) = m by omega, List.range_succ, List.map_append]
          simp
        rw [e1] at hs
        refine ⟨k + 1, by omega, by go_num, Lib.hid ?_, Lib.hid ?_⟩
        · exact hs.1
        · exact HB.out.grown hs.2 HB.out.size (fun j e => by cases e; exact Nat.le_refl _)
      case measure => simp [intOf]; omega
    · obtain rfl : k = size := by omega
      have ho2 : OB wr w.heap.size 5 (.slice (some ⟨w.heap.size, 0, none⟩) k k) (blk k n) := by
        have := HO.out
        rw [Nat.sub_self, List.replicate_zero, List.append_nil] at this
        exact this
      obtain ⟨A0, c0, e0, -, hrb⟩ := ho2.reads
      rw [blk_length] at e0
      cases e0
      have q1 := conv_str (n := k) (c := k) (blk_length k n).symm hrb
      clear ho2 hrb HO
      go_wp2
      go_ret
      exact ⟨rfl, HB.out⟩
theorem blkS_any (n : Int) (w : World) : Calls Try.prog 29 #[.int .i64 n] w fun e w' => ∃ A c, e = .returned (.slice A 64 c) ∧ SV A 64 c ∧ RB w' A (blk 64 n) ∧ (∀ ad, A = some ad → w.heap.size ≤ ad.block) ∧ Below w.heap.size w w' := by
  have h := block_any 64 n w (by omega)
  obtain ⟨bs, hbs⟩ : ∃ bs, bs = blk 64 n := ⟨_, rfl⟩
  have hl : bs.length = 64 := by rw [hbs]; exact blk_length 64 n
  rw [← hbs] at h ⊢
  obtain ⟨S, hS⟩ : ∃ S : ByteArray, S = ⟨bs.toArray⟩ := ⟨_, rfl⟩
  have hz : S.size = 64 := by rw [hS]; show bs.toArray.size = 64; simpa using hl
  rw [← hS] at h
  have H := Lib.hid h
  have HS := Lib.hid hS
  have hk := fun (w : World) => run_bytes_of_string (P := Try.prog) w 9 22 5 S Try.underlying9 Try.underlying22 Try.underlying5
  clear h hbs hS
  go_enter Try.func29, Try.ntmps29
  go_wp2_with fail
  refine H.out.mono ?_
  rintro e w1 ⟨rfl, hb⟩
  have HB := Lib.hid hb
  clear hb
  go_wp2_with fail
  go_ret
  have hsz := HB.out.size
  refine ⟨some ⟨w1.heap.size, 0, none⟩, _, rfl, ⟨?_, fun h => by cases h⟩, ?_, fun ad e => by cases e; exact hsz, bel_drew (bel_alloc HB.out _)⟩
  · have := grownCap_ge w1 64 0 5
    omega
  · refine RB.drew (RB.mk' (by omega) fun _ => ⟨_, rfl, fun j hj => cell_alloc w1 _ 5 _ _ rfl j _ ?_⟩)
    rw [HS.out]
    have hd : (⟨bs.toArray⟩ : ByteArray).data = bs.toArray := rfl
    unfold bytesRow
    rw [hd, Array.getElem?_append_left (by simpa using hj)]
    simp [List.getD_eq_getElem?_getD, List.getElem?_eq_getElem hj]
end Go.Proofs.Ytdldclakkplliaa
