/- The walk of LinkOrder: what waits stands in the order in which it was sent. Conditions: none. -/
import Derived.Test.YtbjkeakehdljlaaKeeps
import Derived.Deep.DeepCutAuto
namespace Go.Proofs.Ytbjkeakehdljlaa
set_option linter.unusedVariables false
set_option linter.unusedSimpArgs false
open Go.RowKit

/-! ### plain law of what is left -/
/-- The frame of number j+1. -/
def ordK (xs : List Int) (j : Nat) : Int × Int × List UInt8 := ((j : Int) + 1, xs.getD j 0 % 21, [UInt8.ofNat j])
theorem erase_filter {K : List (Int × Int × List UInt8)} (h : K.Pairwise fun p q => p.1 < q.1) (i : Nat) (x : Int × Int × List UInt8) (hx : K[i]? = some x) : K.eraseIdx i = K.filter (fun y => decide (y.1 ≠ x.1)) := by
  induction K generalizing i with
  | nil => simp at hx
  | cons y K ih =>
    rw [List.pairwise_cons] at h
    cases i with
    | zero =>
      simp only [List.getElem?_cons_zero, Option.some.injEq] at hx
      subst hx
      simp only [List.eraseIdx_cons_zero, List.filter_cons, ne_eq, not_true_eq_false, decide_false, Bool.false_eq_true, if_false]
      rw [List.filter_eq_self.2]
      intro z hz
      have := h.1 z hz
      simp
      omega
    | succ i =>
      simp only [List.getElem?_cons_succ] at hx
      have hlt := h.1 x (List.mem_of_getElem? hx)
      rw [List.eraseIdx_cons_succ, List.filter_cons, if_pos (by simp; omega), ih h.2 i hx]
/-- The numbers that are not lost. -/
def left (lst : List Bool) (n : Nat) : List Nat := (List.range n).filter (fun j => !lst.getD j false)
theorem left_set (lst : List Bool) (n k : Nat) (hk : k < lst.length) : (left lst n).filter (fun j => decide (j ≠ k)) = left (lst.set k true) n := by
  unfold left
  rw [List.filter_filter]
  refine List.filter_congr fun j _ => ?_
  by_cases h : j = k
  · subst h
    simp [List.getD_eq_getElem?_getD, hk]
  · have : (lst.set k true).getD j false = lst.getD j false := by
      simp only [List.getD_eq_getElem?_getD]
      rw [List.getElem?_set_ne (by omega)]
    rw [this]
    simp [h]
theorem left_pairwise (lst : List Bool) (n : Nat) (xs : List Int) : ((left lst n).map (ordK xs)).Pairwise fun p q => p.1 < q.1 := by
  rw [List.pairwise_map]
  refine (List.pairwise_lt_range.sublist List.filter_sublist).imp ?_
  intro a b h
  simp only [ordK]
  omega
theorem left_erase {xs : List Int} {lst : List Bool} {n k i : Nat} (hk : k < lst.length) (hi : ((left lst n).map (ordK xs))[i]? = some (ordK xs k)) : ((left lst n).map (ordK xs)).eraseIdx i = (left (lst.set k true) n).map (ordK xs) := by
  rw [erase_filter (left_pairwise lst n xs) i _ hi, ← left_set lst n k hk, List.filter_map]
  congr 1
  refine List.filter_congr fun j _ => ?_
  simp only [Function.comp, ordK]
  congr 1
  exact propext ⟨fun h e => h (by omega), fun h e => h (by omega)⟩
theorem left_mem {lst : List Bool} {n k : Nat} : k ∈ left lst n ↔ k < n ∧ lst.getD k false = false := by
  unfold left
  rw [List.mem_filter, List.mem_range]
  simp
theorem left_at {lst : List Bool} {n k : Nat} (hk : k < n) (h : lst.getD k false = false) : (left lst n)[(left lst k).length]? = some k := by
  have e : List.range n = List.range k ++ (k :: (List.range (n - k - 1)).map (fun j => k + 1 + j)) := by
    have : n = k + (n - k) := by omega
    conv => lhs; rw [this, List.range_add]
    congr 1
    obtain ⟨m, hm⟩ : ∃ m, n - k = m + 1 := ⟨n - k - 1, by omega⟩
    rw [hm, List.range_succ_eq_map]
    simp [Function.comp_def]
    intro a _
    omega
  unfold left
  rw [e, List.filter_append, List.getElem?_append_right (Nat.le_refl _), Nat.sub_self, List.filter_cons, if_pos (by rw [h]; rfl)]
  rfl
theorem left_succ {lst : List Bool} {k : Nat} : left lst (k + 1) = left lst k ++ (if lst.getD k false = true then [] else [k]) := by
  unfold left
  rw [List.range_succ, List.filter_append]
  congr 1
  rw [List.filter_cons]
  cases h : lst.getD k false <;> rfl
theorem left_none (n m : Nat) : left (List.replicate m false) n = List.range n := by
  unfold left
  rw [List.filter_eq_self]
  intro j _
  simp [List.getD_eq_getElem?_getD, List.getElem?_replicate]
  split <;> rfl
/-- Whom they wait for, summed. -/
def sumTo (ps : List P) : Nat → Nat
  | 0 => 0
  | k + 1 => sumTo ps k + (idsFor ps k).length
theorem sumTo_cons (p : P) (ps : List P) (k : Nat) : sumTo (p :: ps) k = sumTo ps k + (if 0 ≤ p.to ∧ p.to < k then 1 else 0) := by
  induction k with
  | zero => simp only [sumTo]; rw [if_neg (by omega)]
  | succ k ih =>
    have e : (idsFor (p :: ps) k).length = (idsFor ps k).length + (if p.to = k then 1 else 0) := by
      unfold idsFor
      rw [List.filter_cons]
      by_cases h : p.to = k
      · simp [h]
      · simp [h]
    simp only [sumTo]
    rw [ih, e]
    repeat' split
    all_goals omega
theorem sumTo_all (ps : List P) (h : ∀ p, p ∈ ps → 0 ≤ p.to ∧ p.to < 21) : sumTo ps 21 = ps.length := by
  induction ps with
  | nil => decide
  | cons p ps ih =>
    rw [sumTo_cons, ih (fun q hq => h q (List.mem_cons_of_mem _ hq)), if_pos (by have := h p (List.mem_cons_self ..); omega), List.length_cons]
theorem sumTo_le (ps : List P) (k : Nat) : sumTo ps k ≤ ps.length * k := by
  induction k with
  | zero => simp [sumTo]
  | succ k ih =>
    have := idsFor_len ps k
    simp only [sumTo]
    rw [Nat.mul_succ]
    omega
theorem tmod_round (k n : Int) (hn : 0 < n) : (k.tmod n < 0 → k.tmod n + n = k % n) ∧ (¬ k.tmod n < 0 → k.tmod n = k % n) := by
  have h := Int.tmod_eq_emod (a := k) (b := n)
  have h1 := Int.emod_nonneg k (by omega : n ≠ 0)
  have h2 := Int.emod_lt_of_pos k hn
  split at h
  · omega
  · rename_i hc
    constructor
    · omega
    · intro h3
      exfalso
      have h4 : k < 0 := by omega
      have h5 : k.tmod n ≤ 0 := by
        have e : k = -(-k) := by omega
        rw [e, Int.neg_tmod]
        have := Int.tmod_nonneg n (show 0 ≤ -k by omega)
        omega
      have : k % n = n := by omega
      omega

theorem round_any (k n : Int) (w : World) (h1 : -9223372036854775808 ≤ k) (h2 : k ≤ 9223372036854775807) (hn : 0 < n) (hn2 : n ≤ 4611686018427387904) :
    Calls Try.prog 20 #[.int .i64 k, .int .i64 n] w fun e w' => e = .returned (.int .i64 (k % n)) ∧ w = w' := by
  go_enter Try.func20, Try.ntmps20
  go_wp2
  · rename_i h
    go_ret
    have hb := Int.tmod_lt_of_pos k hn
    have hr := tmod_round k n hn
    have h1 := Int.emod_nonneg k (by omega : n ≠ 0)
    have h2 := Int.emod_lt_of_pos k hn
    exact ⟨ret_int (by rw [hr.1 h]; unfold wrap64; omega), rfl⟩
  · rename_i h
    go_ret
    have hr := tmod_round k n hn
    exact ⟨ret_int (hr.2 (by omega)), rfl⟩

theorem send_at (dc : Int → Nat) (id g : Nat) (last : Int) (ps : List P) (tt : Int) (A : Option Addr) (c cl : Nat) (b : List UInt8) (w : World) (col : Nat → Nat) (h : LinkAt w col dc id g last ps) (hr : RC w col cl A b) (hcl : cl ≠ id) (hc : SV A b.length c)
    (hok : sendOk tt b) (hdc : dc (last + 1) ≠ id) (hps : ps.length ≤ 1000000) (hl : last ≤ 1000000) (n : Nat) (hn : n = b.length) :
    Calls Try.prog 8 #[.pointer (some ⟨g, 0, none⟩), .int .i64 tt, .slice A n c] w (SendP dc id g last ps tt b w col) := by
  subst hn
  exact send_ok dc id g last ps tt A c cl b w col h hr hcl hc hok hdc hps hl
/-- The block that holds what is lost. -/
def lostCells (lst : List Bool) : Array Value := (lst.map Value.bool).toArray
theorem lost_get (lst : List Bool) (k : Nat) (hk : k < lst.length) : (lostCells lst)[k]? = some (.bool (lst.getD k false)) := by
  simp [lostCells, List.getD_eq_getElem?_getD, List.getElem?_eq_getElem hk]
theorem lost_set (lst : List Bool) (k : Nat) : (lostCells lst).setIfInBounds k (.bool true) = lostCells (lst.set k true) := by
  simp [lostCells, List.map_set]

theorem set_same {lst : List Bool} {k : Nat} (h : lst.getD k false = true) : lst.set k true = lst := by
  refine List.ext_getElem? fun j => ?_
  by_cases hj : k = j
  · subst hj
    rw [List.getD_eq_getElem?_getD] at h
    cases hq : lst[k]? with
    | none => rw [hq] at h; cases h
    | some b =>
      rw [hq] at h
      have hl := (List.getElem?_eq_some_iff.1 hq).1
      rw [List.getElem?_set_self hl]
      simp at h
      rw [h]
  · rw [List.getElem?_set_ne hj]
theorem gone_none {ps : List P} {xs : List Int} {lst : List Bool} {n k : Nat} (hK : ps.map key = (left lst n).map (ordK xs)) (hb : lst.getD k false = true) : fnd ps ((k : Int) + 1) = -1 := by
  refine fnd_none fun j q hq e => ?_
  have hm : key q ∈ ps.map key := List.mem_map_of_mem (List.mem_of_getElem? hq)
  rw [hK] at hm
  obtain ⟨a, ha, hk⟩ := List.mem_map.1 hm
  have h1 : q.id = (a : Int) + 1 := (congrArg (·.1) hk).symm
  have : a = k := by omega
  subst this
  rw [(left_mem.1 ha).2] at hb
  cases hb
theorem gone_some {ps : List P} {xs : List Int} {lst : List Bool} {n k : Nat} (hK : ps.map key = (left lst n).map (ordK xs)) (hk : k < n) (hkl : k < lst.length) (hb : lst.getD k false = false) (hi : ps.Pairwise fun p q => p.id < q.id) :
    ∃ i : Nat, fnd ps ((k : Int) + 1) = (i : Int) ∧ (ps.eraseIdx i).map key = (left (lst.set k true) n).map (ordK xs) := by
  obtain ⟨i, hi2⟩ := List.getElem?_of_mem (List.mem_map_of_mem (f := ordK xs) (left_mem.2 ⟨hk, hb⟩))
  have h2 := hi2
  rw [← hK, List.getElem?_map] at hi2
  obtain ⟨p, hp, hpk⟩ := Option.map_eq_some_iff.1 hi2
  refine ⟨i, fnd_at i hp (congrArg (·.1) hpk) hi, ?_⟩
  rw [List.eraseIdx_eq_take_drop_succ, List.map_append, List.map_take, List.map_drop, ← List.eraseIdx_eq_take_drop_succ, hK]
  exact left_erase hkl h2

noncomputable def G29 : Array Oper := regionOf Try.f5 29
theorem Gns29 : Region.noSelect G29 = true := by kernel_rfl
theorem key_len' {ps qs : List P} (h : ps.map key = qs.map key) : ps.length = qs.length := by
  have := congrArg List.length h
  simpa using this
theorem left_len (lst : List Bool) (n : Nat) : (left lst n).length ≤ n := by
  have := List.length_filter_le (fun j => !lst.getD j false) (List.range n)
  rw [List.length_range] at this
  exact this

set_option maxRecDepth 100000 in
set_option maxHeartbeats 8000000 in
theorem order_walk (A B : Option Addr) (c c' : Nat) (xs ys : List Int) (w : World) (hx : RI w A xs) (hy : RI w B ys) (hxb : ∀ x ∈ xs, -9223372036854775808 ≤ x ∧ x ≤ 9223372036854775807) (hyb : ∀ x ∈ ys, -9223372036854775808 ≤ x ∧ x ≤ 9223372036854775807) (h40 : xs.length ≤ 40) (h40' : ys.length ≤ 40) :
    Calls Try.prog 5 #[.slice A xs.length c, .slice B ys.length c'] w fun e w' => e = .returned (.bool true) ∧ Below w.heap.size w w' := by
  have HX := Lib.hid hx
  have HY := Lib.hid hy
  have HXB := Lib.hid hxb
  have HYB := Lib.hid hyb
  obtain ⟨n, hn⟩ : ∃ n, n = xs.length := ⟨_, rfl⟩
  obtain ⟨m, hm⟩ : ∃ m, m = ys.length := ⟨_, rfl⟩
  have HN := Lib.hid hn
  have HM := Lib.hid hm
  rw [← hn] at h40
  rw [← hm] at h40'
  rw [← hn, ← hm]
  clear hx hy hxb hyb hn hm
  have hz1 : decide (40 < (n : Int)) = false := by simp; omega
  have hz2 : decide (40 < (m : Int)) = false := by simp; omega
  go_enter Try.func5, Try.ntmps5
  go_wp2_with fail
  refine (new_any (fun _ => 0) 1 (by omega) w (fun _ => 0)).mono ?_
  rintro e w1 ⟨g, c1, rfl, s1, l1⟩
  have O1 := Lib.hid ((Old.init w).step s1 (by omega))
  have L1 := Lib.hid l1
  clear s1 l1
  have hb2 : Below w1.heap.size w1 (w1.alloc (.cells (lostCells (List.replicate 41 false)) 57)) := bel_alloc (Below.refl _ _) _
  have HBL := Lib.hid hb2
  have HLC := Lib.hid (heap_alloc_new w1 (.cells (lostCells (List.replicate 41 false)) 57))
  have O2 := Lib.hid (O1.out.grow hb2 (fun _ => 3))
  have L2 := Lib.hid (L1.out.grow hb2 (fun _ => 3))
  have HP2 : Hid (paint w1 c1 (fun _ => 3) w1.heap.size = 3) := Lib.hid (paint_new (Nat.le_refl _))
  clear hb2 O1 L1
  go_wp2
  have hlit : lostCells (List.replicate 41 false) = #[.bool false, .bool false, .bool false, .bool false, .bool false, .bool false, .bool false, .bool false, .bool false, .bool false, .bool false, .bool false, .bool false, .bool false, .bool false, .bool false, .bool false, .bool false, .bool false, .bool false, .bool false, .bool false, .bool false, .bool false, .bool false, .bool false, .bool false, .bool false, .bool false, .bool false, .bool false, .bool false, .bool false, .bool false, .bool false, .bool false, .bool false, .bool false, .bool false, .bool false, .bool false] := by rfl
  rw [← hlit]
  clear hlit
  generalize w1.alloc (.cells (lostCells (List.replicate 41 false)) 57) = w2 at *
  generalize paint w1 c1 (fun _ => 3) = c2 at *
  generalize w1.heap.size = lb at *
  go_loopw [7, 8, 9] (fun u7 u8 u9 w' => ∃ (i : Nat) (ps : List P) (col : Nat → Nat), i ≤ n ∧ u7 = .int .i64 i ∧ Hid (ps.map key = (List.range i).map (ordK xs)) ∧ Hid (LinkAt w' col (fun _ => 0) 1 g (i : Int) ps) ∧ Hid (Old w w' col) ∧ Hid (w'.heap[lb]? = some (.cells (lostCells (List.replicate 41 false)) 57 (0, 0))) ∧ Hid (col lb = 3)) (fun u7 _ _ _ => n - (intOf u7).toNat)
  case atStart => exact ⟨0, [], c2, Nat.zero_le _, rfl, Lib.hid rfl, L2, O2, HLC, HP2⟩
  case round =>
    clear HLC O2 L2 HP2
    obtain ⟨i, ps, col, hi, rfl, HK, HL, HO, HLC, HCL⟩ := hrel
    by_cases hlt : i < n
    · obtain ⟨ad, rfl, hcell0⟩ := HX.out.at_ i (by rw [← HN.out]; exact hlt)
      have hcell := (HO.out.below.cell (World.block_lt_of_cell? w _ hcell0)).trans hcell0
      have hxr := HXB.out (xs.getD i 0) (by rw [List.getD_eq_getElem?_getD, List.getElem?_eq_getElem (by rw [← HN.out]; exact hlt)]; simp)
      have hplen : ps.length = i := by have := congrArg List.length HK.out; simpa using this
      obtain ⟨x, hxe⟩ : ∃ x, x = xs.getD i 0 := ⟨_, rfl⟩
      rw [← hxe] at hcell hxr
      have HXE := Lib.hid hxe
      have hr := Lib.hid (round_any x 21 wr hxr.1 hxr.2 (by omega) (by omega))
      clear hcell0 hxr hxe
      go_wp2_with fail
      refine hr.out.mono ?_
      rintro e w' ⟨rfl, rfl⟩
      have hx0 : 0 ≤ x % 21 := Int.emod_nonneg _ (by omega)
      have hx1 : x % 21 < 21 := Int.emod_lt_of_pos _ (by omega)
      go_wp2_with fail
      have hbl : Below wr.heap.size wr (wr.alloc (.cells #[.int .u8 i] 5)) := bel_alloc (Below.refl _ _) _
      have hrb : RB (wr.alloc (.cells #[.int .u8 i] 5)) (some ⟨wr.heap.size, 0, none⟩) [UInt8.ofNat i] := RB.lit wr 5 (0, 0) _ (by simp) _ rfl _ (by simp [cellsOf]; omega)
      refine (send_at (fun _ => 0) 1 g i ps (x % 21) _ 1 0 [UInt8.ofNat i] _ (paint wr col (fun _ => 0)) (HL.out.grow hbl _) (RC.new 0 hrb (fun ad e => by cases e; exact Nat.le_refl _)) (by omega) ⟨Nat.le_refl _, fun e => by cases e⟩ ⟨hx0, by omega, by simp⟩ (by omega) (by omega) (by omega) 1 rfl).mono ?_
      rintro e w3 ⟨rfl, c3, A3, k3, s3, l3⟩
      have hlb : lb < wr.heap.size := (Array.getElem?_eq_some_iff.1 HLC.out).1
      have hcl : paint wr col (fun _ => 0) lb = 3 := (paint_old hlb).trans HCL.out
      have hlb2 := (Array.getElem?_eq_some_iff.1 (heap_below HLC.out hbl)).1
      have HLC3 := Lib.hid ((s3.keeps.block lb hlb2 (by rw [hcl]; omega)).trans (heap_below HLC.out hbl))
      have HCL3 : Hid (c3 lb = 3) := Lib.hid ((s3.same lb hlb2).trans hcl)
      have HO3 := Lib.hid ((HO.out.grow hbl (fun _ => 0)).step s3 (by omega))
      have HL3 := Lib.hid l3
      clear hbl hrb s3 l3 hlb hcl hlb2 HLC HCL HO HL hr hcell
      go_wp2
      go_roundw
      case rel =>
        refine ⟨i + 1, _, c3, by omega, by go_num, Lib.hid ?_, HL3, HO3, HLC3, HCL3⟩
        rw [List.map_append, HK.out, List.range_succ, List.map_append]
        simp [key, ordK, HXE.out]
      case measure => simp [intOf]; omega
    · obtain rfl : i = n := by omega
      have HK2 : Hid (ps.map key = (left (List.replicate 41 false) i).map (ordK xs)) := Lib.hid (by rw [left_none]; exact HK.out)
      clear HK
      go_wp2
      go_loopw [10, 11, 12] (fun u10 u11 u12 w' => ∃ (j : Nat) (ps : List P) (col : Nat → Nat) (lst : List Bool), j ≤ m ∧ u10 = .int .i64 j ∧ lst.length = 41 ∧ Hid (ps.map key = (left lst i).map (ordK xs)) ∧ Hid (LinkAt w' col (fun _ => 0) 1 g (i : Int) ps) ∧ Hid (Old w w' col) ∧ Hid (w'.heap[lb]? = some (.cells (lostCells lst) 57 (0, 0))) ∧ Hid (col lb = 3)) (fun u10 _ _ _ => m - (intOf u10).toNat)
      case atStart => exact ⟨0, ps, col, List.replicate 41 false, Nat.zero_le _, rfl, by simp, HK2, HL, HO, HLC, HCL⟩
      case round =>
        clear HK2 HL HO HLC HCL
        obtain ⟨j, ps, col, lst, hj, rfl, hll, HK, HL, HO, HLC, HCL⟩ := hrel
        have hplen : ps.length ≤ 41 := by
          have h1 := congrArg List.length HK.out
          simp only [List.length_map] at h1
          have h2 : (left lst i).length ≤ i := by
            have := List.length_filter_le (fun j => !lst.getD j false) (List.range i)
            rw [List.length_range] at this
            exact this
          omega
        go_upto_region 14 with fail
        go_cut [67] (fun s67 wx => ∃ bb : Bool, s67 = .bool bb ∧ (bb = true ↔ j < m ∧ 0 < i) ∧ wx = wr)
        case first =>
          by_cases h1 : j < m
          · by_cases h2 : 0 < i
            · go_wp2
              go_meet
              exact ⟨true, rfl, by simp [h1, h2], rfl⟩
            · have h3 : decide (0 < (i : Int)) = false := by simp; omega
              go_wp2
              go_meet
              exact ⟨false, rfl, by simp [h2], rfl⟩
          · have h3 : decide ((j : Int) < (m : Int)) = false := by simp; omega
            go_wp2
            go_meet
            exact ⟨false, rfl, by simp [h1], rfl⟩
        case rest =>
          obtain ⟨bb, rfl, hbb, rfl⟩ := hcut
          by_cases hgo : j < m ∧ 0 < i
          · have hdg : bb = true := hbb.2 hgo
            subst hdg
            clear hbb
            obtain ⟨hlt2, hi0⟩ := hgo
            obtain ⟨ad, rfl, hcell0⟩ := HY.out.at_ j (by rw [← HM.out]; exact hlt2)
            have hcell := (HO.out.below.cell (World.block_lt_of_cell? w _ hcell0)).trans hcell0
            have hyr := HYB.out (ys.getD j 0) (by rw [List.getD_eq_getElem?_getD, List.getElem?_eq_getElem (by rw [← HM.out]; exact hlt2)]; simp)
            obtain ⟨y, hye⟩ : ∃ y, y = ys.getD j 0 := ⟨_, rfl⟩
            rw [← hye] at hcell hyr
            have hy0 : 0 ≤ y % (i : Int) := Int.emod_nonneg _ (by omega)
            have hy1 : y % (i : Int) < i := Int.emod_lt_of_pos _ (by omega)
            obtain ⟨k, hk⟩ := Int.eq_ofNat_of_zero_le hy0
            have hr := round_any y i wc hyr.1 hyr.2 (by omega) (by omega)
            rw [hk] at hr hy1
            have HRD := Lib.hid hr
            have hki : k < i := by omega
            have hkl : k < lst.length := by omega
            have hlc : wc.cell? ⟨lb, k, none⟩ = some (.bool (lst.getD k false)) := by rw [cell_of_row _ lb k _ 57 (0, 0) HLC.out]; exact lost_get lst k hkl
            clear hcell0 hyr hye hy0 hy1 hk hr
            have hk41 : k < 41 := by omega
            go_wp2_with fail
            refine HRD.out.mono ?_
            rintro e w' ⟨rfl, rfl⟩
            cases hb : lst.getD k false with
            | true =>
              rw [hb] at hlc
              have HS := Lib.hid (set_same hb)
              have HNO := Lib.hid (gone_none HK.out hb)
              clear hb
              go_wp2_with fail
              refine (lose_any (fun _ => 0) 1 g i ps _ wc col HL.out (by omega)).mono ?_
              rintro e w3 ⟨c3, s3, ⟨hx3, rfl, l3⟩ | ⟨i3, p3, hx3, -⟩⟩
              case' inr => exfalso; rw [HNO.out] at hx3; omega
              have hlbl := (Array.getElem?_eq_some_iff.1 HLC.out).1
              have hlc3 := (s3.keeps.block lb hlbl (by rw [HCL.out]; omega)).trans HLC.out
              have hcl3 : c3 lb = 3 := (s3.same lb hlbl).trans HCL.out
              have hfz : w3.frozen? ⟨lb, k, none⟩ = false := frozen_of_row w3 lb k _ _ hlc3
              have hcc : w3.cell? ⟨lb, k, none⟩ = some (.bool (lst.getD k false)) := by rw [cell_of_row _ lb k _ 57 (0, 0) hlc3]; exact lost_get lst k hkl
              have st := store_step (w := w3) (col := c3) (c := 3) (a := ⟨lb, k, none⟩) (.bool true) hcl3
              have HL4 := Lib.hid (l3.step st (by omega) (fun _ _ => by omega))
              have HO4 := Lib.hid ((HO.out.step s3 (by omega)).step st (by omega))
              have HLC4 : Hid ((w3.setCell ⟨lb, k, none⟩ (.bool true)).heap[lb]? = some (.cells (lostCells (lst.set k true)) 57 (0, 0))) := Lib.hid (by rw [← lost_set]; exact row_set (j := k) _ hlc3)
              have HCL4 := Lib.hid hcl3
              clear hlbl hlc3 hcl3 st s3 l3 hx3 HLC HO HL hcell hlc
              go_wp2
              go_roundw
              case rel => exact ⟨j + 1, ps, c3, lst.set k true, by omega, by go_num, by simp [hll], Lib.hid (by rw [HS.out]; exact HK.out), HL4, HO4, HLC4, HCL4⟩
              case measure => simp [intOf]; omega
            | false =>
              rw [hb] at hlc
              obtain ⟨i0, hf0, hke⟩ := gone_some HK.out hki hkl hb HL.out.inc
              have HF0 := Lib.hid hf0
              have HKE := Lib.hid hke
              clear hb hf0 hke
              go_wp2_with fail
              refine (lose_any (fun _ => 0) 1 g i ps _ wc col HL.out (by omega)).mono ?_
              rintro e w3 ⟨c3, s3, ⟨hx3, -⟩ | ⟨i3, p3, hx3, hp3, hpx3, rfl, l3⟩⟩
              case' inl => exfalso; rw [HF0.out] at hx3; omega
              have hii : i3 = i0 := by rw [HF0.out] at hx3; omega
              subst hii
              clear hp3 hpx3
              have hlbl := (Array.getElem?_eq_some_iff.1 HLC.out).1
              have hlc3 := (s3.keeps.block lb hlbl (by rw [HCL.out]; omega)).trans HLC.out
              have hcl3 : c3 lb = 3 := (s3.same lb hlbl).trans HCL.out
              have hfz : w3.frozen? ⟨lb, k, none⟩ = false := frozen_of_row w3 lb k _ _ hlc3
              have hcc : w3.cell? ⟨lb, k, none⟩ = some (.bool (lst.getD k false)) := by rw [cell_of_row _ lb k _ 57 (0, 0) hlc3]; exact lost_get lst k hkl
              have st := store_step (w := w3) (col := c3) (c := 3) (a := ⟨lb, k, none⟩) (.bool true) hcl3
              have HL4 := Lib.hid (l3.step st (by omega) (fun _ _ => by omega))
              have HO4 := Lib.hid ((HO.out.step s3 (by omega)).step st (by omega))
              have HLC4 : Hid ((w3.setCell ⟨lb, k, none⟩ (.bool true)).heap[lb]? = some (.cells (lostCells (lst.set k true)) 57 (0, 0))) := Lib.hid (by rw [← lost_set]; exact row_set (j := k) _ hlc3)
              have HCL4 := Lib.hid hcl3
              clear hlbl hlc3 hcl3 st s3 l3 hx3 HLC HO HL hcell hlc
              go_wp2
              go_roundw
              case rel => exact ⟨j + 1, _, c3, lst.set k true, by omega, by go_num, by simp [hll], HKE, HL4, HO4, HLC4, HCL4⟩
              case measure => simp [intOf]; omega
          · have hdg : bb = false := by
              cases bb with
              | false => rfl
              | true => exact absurd (hbb.1 rfl) hgo
            subst hdg
            clear hgo hbb
            obtain ⟨v5, hv5, ho5, -⟩ := HL.out.ex
            obtain ⟨A5, c5, rfl, hfr5⟩ := own_FR ho5
            have hpb : ∀ p, p ∈ ps → SV p.A p.b.length p.c ∧ RB wc p.A p.b ∧ p.b.length ≤ 65536 ∧ 0 ≤ p.to ∧ p.to < 21 := fun p hp => by
              have hm := List.mem_map_of_mem (f := key) hp
              rw [HK.out] at hm
              obtain ⟨a, -, hk'⟩ := List.mem_map.1 hm
              have h1 : p.b = [UInt8.ofNat a] := (congrArg (·.2.2) hk').symm
              have h2 : p.to = xs.getD a 0 % 21 := (congrArg (·.2.1) hk').symm
              exact ⟨(HL.out.dat p hp).1, (HL.out.dat p hp).2.1.read, by rw [h1]; simp, by rw [h2]; exact Int.emod_nonneg _ (by omega), by rw [h2]; exact Int.emod_lt_of_pos _ (by omega)⟩
            have HSUM := Lib.hid (sumTo_all ps (fun p hp => (hpb p hp).2.2.2))
            have HWT2 := Lib.hid (fun (W : World) (hW : Below wc.heap.size wc W) => waiting_any g i ps A5 c5 W (heap_below hv5 hW) (hfr5.below hW) (fun p hp => ⟨(hpb p hp).1, (hpb p hp).2.1.below hW, (hpb p hp).2.2.1⟩) (by omega))
            clear hpb hv5 ho5 hfr5
            go_wp2_with fail
            refine (HWT2.out wc (Below.refl _ _)).mono ?_
            rintro e w7 ⟨v7, fs, rfl, hk7, hof7, hb7⟩
            obtain ⟨A7, c7, rfl, hfr7⟩ := hof7.reads
            obtain ⟨N, hN⟩ : ∃ N, N = fs.length := ⟨_, rfl⟩
            have hNp : N = ps.length := by rw [hN]; exact key_len' hk7
            have hNl : N = (left lst i).length := by
              have := congrArg List.length HK.out
              simp only [List.length_map] at this
              rw [hNp, this]
            have HNN := Lib.hid hN
            have HNP := Lib.hid hNp
            have HNL := Lib.hid hNl
            have HK7 := Lib.hid (hk7.trans HK.out)
            have HFR7 := Lib.hid hfr7
            have HDF := Lib.hid hof7.dat
            have HLC7 := Lib.hid (heap_below HLC.out hb7)
            have HO7 := Lib.hid (HO.out.below.trans (hb7.mono HO.out.below.size))
            have HB7 := Lib.hid hb7
            have hN41 : N ≤ 41 := by omega
            rw [← hN]
            clear hN hNp hNl hk7 hfr7 hof7 hb7
            go_wp2
            go_loopw [14, 15] (fun s14 s15 w' => ∃ (k q : Nat), k ≤ i ∧ q ≤ k ∧ s15 = .int .i64 k ∧ s14 = .int .i64 q ∧ Hid (q = (left lst k).length) ∧ Hid (Below w7.heap.size w7 w')) (fun _ s15 _ => i - (intOf s15).toNat)
            case atStart => exact ⟨0, 0, Nat.zero_le _, Nat.le_refl _, rfl, rfl, Lib.hid rfl, Lib.hid (Below.refl _ _)⟩
            case round =>
              obtain ⟨k, q, hk, hqk, rfl, rfl, HQ, HB3⟩ := hrel
              by_cases hlt3 : k < i
              · have hkl : k < lst.length := by omega
                have hlc : wr.cell? ⟨lb, k, none⟩ = some (.bool (lst.getD k false)) := by rw [cell_of_row _ lb k _ 57 (0, 0) (heap_below HLC7.out HB3.out)]; exact lost_get lst k hkl
                have hk41 : k < 41 := by omega
                cases hb : lst.getD k false with
                | true =>
                  rw [hb] at hlc
                  have HS := Lib.hid hb
                  clear hb
                  go_wp2
                  go_roundw
                  case rel => exact ⟨k + 1, q, by omega, by omega, by go_num, rfl, Lib.hid (by rw [left_succ, HS.out, if_pos rfl, List.append_nil]; exact HQ.out), HB3⟩
                  case measure => simp [intOf]; omega
                | false =>
                  rw [hb] at hlc
                  have hat := left_at hlt3 hb
                  rw [← HQ.out] at hat
                  have HS := Lib.hid hb
                  obtain ⟨f, hf, hfk⟩ := key_at HK7.out q (x := ordK xs k) (by rw [List.getElem?_map, hat]; rfl)
                  have hqN : q < N := by rw [HNN.out]; exact (List.getElem?_eq_some_iff.1 hf).1
                  obtain ⟨gg, rfl, ha0, ha1, ha2⟩ := HFR7.out.at_ q f hf
                  obtain ⟨hsv, hrb, -⟩ := HDF.out f (List.mem_of_getElem? hf)
                  have hid : f.id = (k : Int) + 1 := congrArg (·.1) hfk
                  have hto : f.to = xs.getD k 0 % 21 := congrArg (·.2.1) hfk
                  have hbb : f.b = [UInt8.ofNat k] := congrArg (·.2.2) hfk
                  obtain ⟨ax, rfl, hx0⟩ := HX.out.at_ k (by rw [← HN.out]; exact hlt3)
                  have hxr := HXB.out (xs.getD k 0) (by rw [List.getD_eq_getElem?_getD, List.getElem?_eq_getElem (by rw [← HN.out]; exact hlt3)]; simp)
                  obtain ⟨x, hxe⟩ : ∃ x, x = xs.getD k 0 := ⟨_, rfl⟩
                  rw [← hxe] at hto hx0 hxr
                  rw [hid] at ha0
                  rw [hto] at ha1
                  rw [hbb] at ha2 hrb
                  obtain ⟨ab, hfA, hbt⟩ := hrb.at_ 0 (by simp)
                  rw [hfA] at ha2
                  have hbt2 : w7.cell? ab = some (.int .u8 (k : Int)) := by
                    have e : ab.add 0 = ab := by unfold Addr.add; simp
                    rw [e] at hbt
                    rw [hbt]
                    have hu : (UInt8.ofNat k).toNat = k := by rw [UInt8.toNat_ofNat']; omega
                    rw [show ([UInt8.ofNat k] : List UInt8).getD 0 0 = UInt8.ofNat k from rfl, hu]
                  have B3 := HB3.out
                  have hx1 := ((HO7.out.cell (World.block_lt_of_cell? w _ hx0)).trans hx0)
                  have x0 := (B3.cell (World.block_lt_of_cell? w7 _ ha0)).trans ha0
                  have x1 := (B3.cell (World.block_lt_of_cell? w7 _ ha1)).trans ha1
                  have x2 := (B3.cell (World.block_lt_of_cell? w7 _ ha2)).trans ha2
                  have x3 := (B3.cell (World.block_lt_of_cell? w7 _ hx1)).trans hx1
                  have x4 := (B3.cell (World.block_lt_of_cell? w7 _ hbt2)).trans hbt2
                  have hiw : IntKind.i64.wrap ((k : Int) + 1) = (k : Int) + 1 := by
                    simp only [IntKind.wrap, IntKind.signed, IntKind.bits]
                    simp
                    omega
                  have hiu : IntKind.u8.wrap (k : Int) = (k : Int) := by
                    unfold IntKind.wrap IntKind.signed IntKind.bits
                    simp only [Bool.false_and, Bool.false_eq_true, if_false]
                    omega
                  have hge2 : decide (N ≤ q) = false := by simp; omega
                  have hge : decide ((N : Int) ≤ (q : Int)) = false := by simp; omega
                  have HRD := Lib.hid (round_any x 21 wr.drew hxr.1 hxr.2 (by omega) (by omega))
                  have HB3' : Hid (Below w7.heap.size w7 wr.drew) := Lib.hid (bel_drew B3)
                  have z0 : wr.drew.cell? ⟨gg, q * 3, none⟩ = some (.int .i64 ((k : Int) + 1)) := x0
                  have z1 : wr.drew.cell? ⟨gg, q * 3 + 1, none⟩ = some (.int .i64 (x % 21)) := x1
                  have z2 : wr.drew.cell? ⟨gg, q * 3 + 2, none⟩ = some (.slice (some ab) 1 f.c) := x2
                  have z3 : wr.drew.cell? (ax.add k) = some (.int .i64 x) := x3
                  have z4 : wr.drew.cell? ab = some (.int .u8 (k : Int)) := x4
                  clear hat hfk ha0 ha1 ha2 hsv hrb hid hto hbb hx0 hxr hxe hfA hbt hbt2 B3 hx1 x0 x1 x2 x3 x4 hb hf HB3
                  go_upto_region 29 with fail
                  clear hlc
                  refine region_const (G := G29) (S := fun X => X = wr.drew) (n := 48) (by kernel_rfl) (by kernel_rfl) rfl rfl (fun HG hS0 => ?_)
                  have Gns := Gns29
                  generalize wr.drew = V at *
                  simp only [Array.replicate_succ, Array.replicate_zero, List.push_toArray, List.nil_append, List.cons_append]
                  refine wpAnyH_take (i := 0) (v := ?_) (o_at HG 0 rfl) Gns (by kernel_rfl) (by kernel_rfl) (fun _ _ _ h => h) (Or.inl ⟨(by kernel_rfl), ?_⟩) (by first | trivial | assumption) ?_
                  rotate_left
                  · (intro w hSw; (try dsimp only at hSw); go_simp; try with_reducible rfl)
                  try simp only [Act.put, List.getElem_toArray, List.getElem_cons_zero, List.getElem_cons_succ, List.setIfInBounds_toArray, List.set_cons_zero, List.set_cons_succ]
                  refine wpAnyH_take (i := 1) (v := ?_) (o_at HG 1 rfl) Gns (by kernel_rfl) (by kernel_rfl) (fun _ _ _ h => h) (Or.inl ⟨(by kernel_rfl), ?_⟩) (by first | trivial | assumption) ?_
                  rotate_left
                  · (intro w hSw; (try dsimp only at hSw); go_simp; try with_reducible rfl)
                  try simp only [Act.put, List.getElem_toArray, List.getElem_cons_zero, List.getElem_cons_succ, List.setIfInBounds_toArray, List.set_cons_zero, List.set_cons_succ]
                  refine wpAnyH_take (i := 2) (v := ?_) (o_at HG 2 rfl) Gns (by kernel_rfl) (by kernel_rfl) (fun _ _ _ h => h) (Or.inl ⟨(by kernel_rfl), ?_⟩) (by first | trivial | assumption) ?_
                  rotate_left
                  · (intro w hSw; (try dsimp only at hSw); go_simp; try with_reducible rfl)
                  try simp only [Act.put, List.getElem_toArray, List.getElem_cons_zero, List.getElem_cons_succ, List.setIfInBounds_toArray, List.set_cons_zero, List.set_cons_succ]
                  refine wpAnyH_take (i := 3) (v := ?_) (o_at HG 3 rfl) Gns (by kernel_rfl) (by kernel_rfl) (fun _ _ _ h => h) (Or.inl ⟨(by kernel_rfl), ?_⟩) (by first | trivial | assumption) ?_
                  rotate_left
                  · (intro w hSw; (try dsimp only at hSw); go_simp; try with_reducible rfl)
                  try simp only [Act.put, List.getElem_toArray, List.getElem_cons_zero, List.getElem_cons_succ, List.setIfInBounds_toArray, List.set_cons_zero, List.set_cons_succ]
                  refine wpAnyH_take (i := 4) (v := ?_) (o_at HG 4 rfl) Gns (by kernel_rfl) (by kernel_rfl) (fun _ _ _ h => h) (Or.inl ⟨(by kernel_rfl), ?_⟩) (by first | trivial | assumption) ?_
                  rotate_left
                  · (intro w hSw; (try dsimp only at hSw); go_simp; try with_reducible rfl)
                  try simp only [Act.put, List.getElem_toArray, List.getElem_cons_zero, List.getElem_cons_succ, List.setIfInBounds_toArray, List.set_cons_zero, List.set_cons_succ]
                  refine wpAnyH_take (i := 5) (v := ?_) (o_at HG 5 rfl) Gns (by kernel_rfl) (by kernel_rfl) (fun _ _ _ h => h) (Or.inl ⟨(by kernel_rfl), ?_⟩) (by first | trivial | assumption) ?_
                  rotate_left
                  · (intro w hSw; (try dsimp only at hSw); go_simp; try with_reducible rfl)
                  try simp only [Act.put, List.getElem_toArray, List.getElem_cons_zero, List.getElem_cons_succ, List.setIfInBounds_toArray, List.set_cons_zero, List.set_cons_succ]
                  refine wpAnyH_take (i := 6) (v := ?_) (o_at HG 6 rfl) Gns (by kernel_rfl) (by kernel_rfl) (fun _ _ _ h => h) (Or.inl ⟨(by kernel_rfl), ?_⟩) (by first | trivial | assumption) ?_
                  rotate_left
                  · (intro w hSw; (try dsimp only at hSw); go_simp; try with_reducible rfl)
                  try simp only [Act.put, List.getElem_toArray, List.getElem_cons_zero, List.getElem_cons_succ, List.setIfInBounds_toArray, List.set_cons_zero, List.set_cons_succ]
                  refine wpAnyH_take (i := 7) (v := ?_) (o_at HG 7 rfl) Gns (by kernel_rfl) (by kernel_rfl) (fun _ _ _ h => h) (Or.inl ⟨(by kernel_rfl), ?_⟩) (by first | trivial | assumption) ?_
                  rotate_left
                  · (intro w hSw; (try dsimp only at hSw); go_simp; try with_reducible rfl)
                  try simp only [Act.put, List.getElem_toArray, List.getElem_cons_zero, List.getElem_cons_succ, List.setIfInBounds_toArray, List.set_cons_zero, List.set_cons_succ]
                  refine wpAnyH_take (i := 8) (v := ?_) (o_at HG 8 rfl) Gns (by kernel_rfl) (by kernel_rfl) (fun _ _ _ h => h) (Or.inl ⟨(by kernel_rfl), ?_⟩) (by first | trivial | assumption) ?_
                  rotate_left
                  · (intro w hSw; (try dsimp only at hSw); go_simp; try with_reducible rfl)
                  try simp only [Act.put, List.getElem_toArray, List.getElem_cons_zero, List.getElem_cons_succ, List.setIfInBounds_toArray, List.set_cons_zero, List.set_cons_succ]
                  refine wpAnyH_take (i := 9) (v := ?_) (o_at HG 9 rfl) Gns (by kernel_rfl) (by kernel_rfl) (fun _ _ _ h => h) (Or.inl ⟨(by kernel_rfl), ?_⟩) (by first | trivial | assumption) ?_
                  rotate_left
                  · (intro w hSw; (try dsimp only at hSw); go_simp; try with_reducible rfl)
                  try simp only [Act.put, List.getElem_toArray, List.getElem_cons_zero, List.getElem_cons_succ, List.setIfInBounds_toArray, List.set_cons_zero, List.set_cons_succ]
                  refine wpAnyH_take (i := 10) (v := ?_) (o_at HG 10 rfl) Gns (by kernel_rfl) (by kernel_rfl) (fun _ _ _ h => h) (Or.inl ⟨(by kernel_rfl), ?_⟩) (by first | trivial | assumption) ?_
                  rotate_left
                  · (intro w hSw; (try dsimp only at hSw); go_simp; try with_reducible rfl)
                  try simp only [Act.put, List.getElem_toArray, List.getElem_cons_zero, List.getElem_cons_succ, List.setIfInBounds_toArray, List.set_cons_zero, List.set_cons_succ]
                  refine wpAnyH_take (i := 11) (v := ?_) (o_at HG 11 rfl) Gns (by kernel_rfl) (by kernel_rfl) (fun _ _ _ h => h) (Or.inl ⟨(by kernel_rfl), ?_⟩) (by first | trivial | assumption) ?_
                  rotate_left
                  · (intro w hSw; (try dsimp only at hSw); go_simp; try with_reducible rfl)
                  try simp only [Act.put, List.getElem_toArray, List.getElem_cons_zero, List.getElem_cons_succ, List.setIfInBounds_toArray, List.set_cons_zero, List.set_cons_succ]
                  refine wpAnyH_take (i := 12) (v := ?_) (o_at HG 12 rfl) Gns (by kernel_rfl) (by kernel_rfl) (fun _ _ _ h => h) (Or.inl ⟨(by kernel_rfl), ?_⟩) (by first | trivial | assumption) ?_
                  rotate_left
                  · (intro w hSw; (try dsimp only at hSw); go_simp; try with_reducible rfl)
                  try simp only [Act.put, List.getElem_toArray, List.getElem_cons_zero, List.getElem_cons_succ, List.setIfInBounds_toArray, List.set_cons_zero, List.set_cons_succ]
                  refine wpAnyH_take (i := 13) (v := ?_) (o_at HG 13 rfl) Gns (by kernel_rfl) (by kernel_rfl) (fun _ _ _ h => h) (Or.inl ⟨(by kernel_rfl), ?_⟩) (by first | trivial | assumption) ?_
                  rotate_left
                  · (intro w hSw; (try dsimp only at hSw); go_simp; try with_reducible rfl)
                  try simp only [Act.put, List.getElem_toArray, List.getElem_cons_zero, List.getElem_cons_succ, List.setIfInBounds_toArray, List.set_cons_zero, List.set_cons_succ]
                  refine wpAnyH_take (i := 14) (v := ?_) (o_at HG 14 rfl) Gns (by kernel_rfl) (by kernel_rfl) (fun _ _ _ h => h) (Or.inl ⟨(by kernel_rfl), ?_⟩) (by first | trivial | assumption) ?_
                  rotate_left
                  · (intro w hSw; (try dsimp only at hSw); go_simp; try with_reducible rfl)
                  try simp only [Act.put, List.getElem_toArray, List.getElem_cons_zero, List.getElem_cons_succ, List.setIfInBounds_toArray, List.set_cons_zero, List.set_cons_succ]
                  refine wpAnyH_take (i := 15) (v := ?_) (o_at HG 15 rfl) Gns (by kernel_rfl) (by kernel_rfl) (fun _ _ _ h => h) (Or.inl ⟨(by kernel_rfl), ?_⟩) (by first | trivial | assumption) ?_
                  rotate_left
                  · (intro w hSw; (try dsimp only at hSw); go_simp; try with_reducible rfl)
                  try simp only [Act.put, List.getElem_toArray, List.getElem_cons_zero, List.getElem_cons_succ, List.setIfInBounds_toArray, List.set_cons_zero, List.set_cons_succ]
                  refine wpAnyH_take (i := 16) (v := ?_) (o_at HG 16 rfl) Gns (by kernel_rfl) (by kernel_rfl) (fun _ _ _ h => h) (Or.inl ⟨(by kernel_rfl), ?_⟩) (by first | trivial | assumption) ?_
                  rotate_left
                  · (intro w hSw; (try dsimp only at hSw); go_simp; try with_reducible rfl)
                  try simp only [Act.put, List.getElem_toArray, List.getElem_cons_zero, List.getElem_cons_succ, List.setIfInBounds_toArray, List.set_cons_zero, List.set_cons_succ]
                  refine wpAnyH_take (i := 17) (v := ?_) (o_at HG 17 rfl) Gns (by kernel_rfl) (by kernel_rfl) (fun _ _ _ h => h) (Or.inl ⟨(by kernel_rfl), ?_⟩) (by first | trivial | assumption) ?_
                  rotate_left
                  · (intro w hSw; (try dsimp only at hSw); go_simp; try with_reducible rfl)
                  try simp only [Act.put, List.getElem_toArray, List.getElem_cons_zero, List.getElem_cons_succ, List.setIfInBounds_toArray, List.set_cons_zero, List.set_cons_succ]
                  refine wpAnyH_take (i := 18) (v := ?_) (o_at HG 18 rfl) Gns (by kernel_rfl) (by kernel_rfl) (fun _ _ _ h => h) (Or.inl ⟨(by kernel_rfl), ?_⟩) (by first | trivial | assumption) ?_
                  rotate_left
                  · (intro w hSw; (try dsimp only at hSw); go_simp; try with_reducible rfl)
                  try simp only [Act.put, List.getElem_toArray, List.getElem_cons_zero, List.getElem_cons_succ, List.setIfInBounds_toArray, List.set_cons_zero, List.set_cons_succ]
                  refine wpAnyH_take (i := 19) (v := ?_) (o_at HG 19 rfl) Gns (by kernel_rfl) (by kernel_rfl) (fun _ _ _ h => h) (Or.inl ⟨(by kernel_rfl), ?_⟩) (by first | trivial | assumption) ?_
                  rotate_left
                  · (intro w hSw; (try dsimp only at hSw); go_simp; try with_reducible rfl)
                  try simp only [Act.put, List.getElem_toArray, List.getElem_cons_zero, List.getElem_cons_succ, List.setIfInBounds_toArray, List.set_cons_zero, List.set_cons_succ]
                  refine wpAnyH_take (i := 20) (v := ?_) (o_at HG 20 rfl) Gns (by kernel_rfl) (by kernel_rfl) (fun _ _ _ h => h) (Or.inl ⟨(by kernel_rfl), ?_⟩) (by first | trivial | assumption) ?_
                  rotate_left
                  · (intro w hSw; (try dsimp only at hSw); go_simp; try with_reducible rfl)
                  try simp only [Act.put, List.getElem_toArray, List.getElem_cons_zero, List.getElem_cons_succ, List.setIfInBounds_toArray, List.set_cons_zero, List.set_cons_succ]
                  refine wpAnyH_take (i := 21) (v := ?_) (o_at HG 21 rfl) Gns (by kernel_rfl) (by kernel_rfl) (fun _ _ _ h => h) (Or.inl ⟨(by kernel_rfl), ?_⟩) (by first | trivial | assumption) ?_
                  rotate_left
                  · (intro w hSw; (try dsimp only at hSw); go_simp; try with_reducible rfl)
                  try simp only [Act.put, List.getElem_toArray, List.getElem_cons_zero, List.getElem_cons_succ, List.setIfInBounds_toArray, List.set_cons_zero, List.set_cons_succ]
                  refine wpAnyH_take (i := 22) (v := ?_) (o_at HG 22 rfl) Gns (by kernel_rfl) (by kernel_rfl) (fun _ _ _ h => h) (Or.inl ⟨(by kernel_rfl), ?_⟩) (by first | trivial | assumption) ?_
                  rotate_left
                  · (intro w hSw; (try dsimp only at hSw); go_simp; try with_reducible rfl)
                  try simp only [Act.put, List.getElem_toArray, List.getElem_cons_zero, List.getElem_cons_succ, List.setIfInBounds_toArray, List.set_cons_zero, List.set_cons_succ]
                  refine wpAnyH_take (i := 23) (v := ?_) (o_at HG 23 rfl) Gns (by kernel_rfl) (by kernel_rfl) (fun _ _ _ h => h) (Or.inl ⟨(by kernel_rfl), ?_⟩) (by first | trivial | assumption) ?_
                  rotate_left
                  · (intro w hSw; (try dsimp only at hSw); go_simp; try with_reducible rfl)
                  try simp only [Act.put, List.getElem_toArray, List.getElem_cons_zero, List.getElem_cons_succ, List.setIfInBounds_toArray, List.set_cons_zero, List.set_cons_succ]
                  refine wpAnyH_ready (rs := [24]) (by kernel_rfl) (by simp) ?_
                  refine AllReadyH.cons (o_at HG 24 rfl) ?_ (AllReadyH.nil)
                  · intro K' hK
                    rw [if_pos (by kernel_rfl)]
                    go_simp
                    (with_reducible refine HRD.out.mono ?_)
                    rintro e w9 ⟨rfl, rfl⟩
                    refine hK.out _ _ rfl (fun _ => ?_)
                    try simp only [Act.put, List.getElem_toArray, List.getElem_cons_zero, List.getElem_cons_succ, List.setIfInBounds_toArray, List.set_cons_zero, List.set_cons_succ]
                    refine wpAnyH_take (i := 25) (v := ?_) (o_at HG 25 rfl) Gns (by kernel_rfl) (by kernel_rfl) (fun _ _ _ h => h) (Or.inl ⟨(by kernel_rfl), ?_⟩) (by first | trivial | assumption) ?_
                    rotate_left
                    · (intro w hSw; (try dsimp only at hSw); go_simp; try with_reducible rfl)
                    try simp only [Act.put, List.getElem_toArray, List.getElem_cons_zero, List.getElem_cons_succ, List.setIfInBounds_toArray, List.set_cons_zero, List.set_cons_succ]
                    refine wpAnyH_take (i := 26) (v := ?_) (o_at HG 26 rfl) Gns (by kernel_rfl) (by kernel_rfl) (fun _ _ _ h => h) (Or.inl ⟨(by kernel_rfl), ?_⟩) (by first | trivial | assumption) ?_
                    rotate_left
                    · (intro w hSw; (try dsimp only at hSw); go_simp; try with_reducible rfl)
                    try simp only [Act.put, List.getElem_toArray, List.getElem_cons_zero, List.getElem_cons_succ, List.setIfInBounds_toArray, List.set_cons_zero, List.set_cons_succ]
                    refine wpAnyH_take (i := 27) (v := ?_) (o_at HG 27 rfl) Gns (by kernel_rfl) (by kernel_rfl) (fun _ _ _ h => h) (Or.inl ⟨(by kernel_rfl), ?_⟩) (by first | trivial | assumption) ?_
                    rotate_left
                    · (intro w hSw; (try dsimp only at hSw); go_simp; try with_reducible rfl)
                    try simp only [Act.put, List.getElem_toArray, List.getElem_cons_zero, List.getElem_cons_succ, List.setIfInBounds_toArray, List.set_cons_zero, List.set_cons_succ]
                    refine wpAnyH_take (i := 28) (v := ?_) (o_at HG 28 rfl) Gns (by kernel_rfl) (by kernel_rfl) (fun _ _ _ h => h) (Or.inl ⟨(by kernel_rfl), ?_⟩) (by first | trivial | assumption) ?_
                    rotate_left
                    · (intro w hSw; (try dsimp only at hSw); go_simp; try with_reducible rfl)
                    try simp only [Act.put, List.getElem_toArray, List.getElem_cons_zero, List.getElem_cons_succ, List.setIfInBounds_toArray, List.set_cons_zero, List.set_cons_succ]
                    refine wpAnyH_take (i := 29) (v := ?_) (o_at HG 29 rfl) Gns (by kernel_rfl) (by kernel_rfl) (fun _ _ _ h => h) (Or.inl ⟨(by kernel_rfl), ?_⟩) (by first | trivial | assumption) ?_
                    rotate_left
                    · (intro w hSw; (try dsimp only at hSw); go_simp; try with_reducible rfl)
                    try simp only [Act.put, List.getElem_toArray, List.getElem_cons_zero, List.getElem_cons_succ, List.setIfInBounds_toArray, List.set_cons_zero, List.set_cons_succ]
                    refine wpAnyH_take (i := 30) (v := ?_) (o_at HG 30 rfl) Gns (by kernel_rfl) (by kernel_rfl) (fun _ _ _ h => h) (Or.inl ⟨(by kernel_rfl), ?_⟩) (by first | trivial | assumption) ?_
                    rotate_left
                    · (intro w hSw; (try dsimp only at hSw); go_simp; try with_reducible rfl)
                    try simp only [Act.put, List.getElem_toArray, List.getElem_cons_zero, List.getElem_cons_succ, List.setIfInBounds_toArray, List.set_cons_zero, List.set_cons_succ]
                    refine wpAnyH_take (i := 31) (v := ?_) (o_at HG 31 rfl) Gns (by kernel_rfl) (by kernel_rfl) (fun _ _ _ h => h) (Or.inl ⟨(by kernel_rfl), ?_⟩) (by first | trivial | assumption) ?_
                    rotate_left
                    · (intro w hSw; (try dsimp only at hSw); go_simp; try with_reducible rfl)
                    try simp only [Act.put, List.getElem_toArray, List.getElem_cons_zero, List.getElem_cons_succ, List.setIfInBounds_toArray, List.set_cons_zero, List.set_cons_succ]
                    refine wpAnyH_take (i := 32) (v := ?_) (o_at HG 32 rfl) Gns (by kernel_rfl) (by kernel_rfl) (fun _ _ _ h => h) (Or.inl ⟨(by kernel_rfl), ?_⟩) (by first | trivial | assumption) ?_
                    rotate_left
                    · (intro w hSw; (try dsimp only at hSw); go_simp; try with_reducible rfl)
                    try simp only [Act.put, List.getElem_toArray, List.getElem_cons_zero, List.getElem_cons_succ, List.setIfInBounds_toArray, List.set_cons_zero, List.set_cons_succ]
                    refine wpAnyH_take (i := 33) (v := ?_) (o_at HG 33 rfl) Gns (by kernel_rfl) (by kernel_rfl) (fun _ _ _ h => h) (Or.inl ⟨(by kernel_rfl), ?_⟩) (by first | trivial | assumption) ?_
                    rotate_left
                    · (intro w hSw; (try dsimp only at hSw); go_simp; try with_reducible rfl)
                    try simp only [Act.put, List.getElem_toArray, List.getElem_cons_zero, List.getElem_cons_succ, List.setIfInBounds_toArray, List.set_cons_zero, List.set_cons_succ]
                    refine wpAnyH_take (i := 34) (v := ?_) (o_at HG 34 rfl) Gns (by kernel_rfl) (by kernel_rfl) (fun _ _ _ h => h) (Or.inl ⟨(by kernel_rfl), ?_⟩) (by first | trivial | assumption) ?_
                    rotate_left
                    · (intro w hSw; (try dsimp only at hSw); go_simp; try with_reducible rfl)
                    try simp only [Act.put, List.getElem_toArray, List.getElem_cons_zero, List.getElem_cons_succ, List.setIfInBounds_toArray, List.set_cons_zero, List.set_cons_succ]
                    refine wpAnyH_take (i := 35) (v := ?_) (o_at HG 35 rfl) Gns (by kernel_rfl) (by kernel_rfl) (fun _ _ _ h => h) (Or.inl ⟨(by kernel_rfl), ?_⟩) (by first | trivial | assumption) ?_
                    rotate_left
                    · (intro w hSw; (try dsimp only at hSw); go_simp; try with_reducible rfl)
                    try simp only [Act.put, List.getElem_toArray, List.getElem_cons_zero, List.getElem_cons_succ, List.setIfInBounds_toArray, List.set_cons_zero, List.set_cons_succ]
                    refine wpAnyH_take (i := 36) (v := ?_) (o_at HG 36 rfl) Gns (by kernel_rfl) (by kernel_rfl) (fun _ _ _ h => h) (Or.inl ⟨(by kernel_rfl), ?_⟩) (by first | trivial | assumption) ?_
                    rotate_left
                    · (intro w hSw; (try dsimp only at hSw); go_simp; try with_reducible rfl)
                    try simp only [Act.put, List.getElem_toArray, List.getElem_cons_zero, List.getElem_cons_succ, List.setIfInBounds_toArray, List.set_cons_zero, List.set_cons_succ]
                    refine wpAnyH_take (i := 37) (v := ?_) (o_at HG 37 rfl) Gns (by kernel_rfl) (by kernel_rfl) (fun _ _ _ h => h) (Or.inl ⟨(by kernel_rfl), ?_⟩) (by first | trivial | assumption) ?_
                    rotate_left
                    · (intro w hSw; (try dsimp only at hSw); go_simp; try with_reducible rfl)
                    try simp only [Act.put, List.getElem_toArray, List.getElem_cons_zero, List.getElem_cons_succ, List.setIfInBounds_toArray, List.set_cons_zero, List.set_cons_succ]
                    refine wpAnyH_take (i := 38) (v := ?_) (o_at HG 38 rfl) Gns (by kernel_rfl) (by kernel_rfl) (fun _ _ _ h => h) (Or.inl ⟨(by kernel_rfl), ?_⟩) (by first | trivial | assumption) ?_
                    rotate_left
                    · (intro w hSw; (try dsimp only at hSw); go_simp; try with_reducible rfl)
                    try simp only [Act.put, List.getElem_toArray, List.getElem_cons_zero, List.getElem_cons_succ, List.setIfInBounds_toArray, List.set_cons_zero, List.set_cons_succ]
                    refine wpAnyH_take (i := 39) (v := ?_) (o_at HG 39 rfl) Gns (by kernel_rfl) (by kernel_rfl) (fun _ _ _ h => h) (Or.inl ⟨(by kernel_rfl), ?_⟩) (by first | trivial | assumption) ?_
                    rotate_left
                    · (intro w hSw; (try dsimp only at hSw); go_simp; try with_reducible rfl)
                    try simp only [Act.put, List.getElem_toArray, List.getElem_cons_zero, List.getElem_cons_succ, List.setIfInBounds_toArray, List.set_cons_zero, List.set_cons_succ]
                    refine wpAnyH_take (i := 40) (v := ?_) (o_at HG 40 rfl) Gns (by kernel_rfl) (by kernel_rfl) (fun _ _ _ h => h) (Or.inl ⟨(by kernel_rfl), ?_⟩) (by first | trivial | assumption) ?_
                    rotate_left
                    · (intro w hSw; (try dsimp only at hSw); go_simp; try with_reducible rfl)
                    try simp only [Act.put, List.getElem_toArray, List.getElem_cons_zero, List.getElem_cons_succ, List.setIfInBounds_toArray, List.set_cons_zero, List.set_cons_succ]
                    refine wpAnyH_take (i := 41) (v := ?_) (o_at HG 41 rfl) Gns (by kernel_rfl) (by kernel_rfl) (fun _ _ _ h => h) (Or.inl ⟨(by kernel_rfl), ?_⟩) (by first | trivial | assumption) ?_
                    rotate_left
                    · (intro w hSw; (try dsimp only at hSw); go_simp; try with_reducible rfl)
                    try simp only [Act.put, List.getElem_toArray, List.getElem_cons_zero, List.getElem_cons_succ, List.setIfInBounds_toArray, List.set_cons_zero, List.set_cons_succ]
                    refine wpAnyH_take (i := 42) (v := ?_) (o_at HG 42 rfl) Gns (by kernel_rfl) (by kernel_rfl) (fun _ _ _ h => h) (Or.inl ⟨(by kernel_rfl), ?_⟩) (by first | trivial | assumption) ?_
                    rotate_left
                    · (intro w hSw; (try dsimp only at hSw); go_simp; try with_reducible rfl)
                    try simp only [Act.put, List.getElem_toArray, List.getElem_cons_zero, List.getElem_cons_succ, List.setIfInBounds_toArray, List.set_cons_zero, List.set_cons_succ]
                    refine wpAnyH_take (i := 43) (v := ?_) (o_at HG 43 rfl) Gns (by kernel_rfl) (by kernel_rfl) (fun _ _ _ h => h) (Or.inl ⟨(by kernel_rfl), ?_⟩) (by first | trivial | assumption) ?_
                    rotate_left
                    · (intro w hSw; (try dsimp only at hSw); go_simp; try with_reducible rfl)
                    try simp only [Act.put, List.getElem_toArray, List.getElem_cons_zero, List.getElem_cons_succ, List.setIfInBounds_toArray, List.set_cons_zero, List.set_cons_succ]
                    refine wpAnyH_take (i := 44) (v := ?_) (o_at HG 44 rfl) Gns (by kernel_rfl) (by kernel_rfl) (fun _ _ _ h => h) (Or.inl ⟨(by kernel_rfl), ?_⟩) (by first | trivial | assumption) ?_
                    rotate_left
                    · (intro w hSw; (try dsimp only at hSw); go_simp; try with_reducible rfl)
                    try simp only [Act.put, List.getElem_toArray, List.getElem_cons_zero, List.getElem_cons_succ, List.setIfInBounds_toArray, List.set_cons_zero, List.set_cons_succ]
                    refine wpAnyH_take (i := 45) (v := ?_) (o_at HG 45 rfl) Gns (by kernel_rfl) (by kernel_rfl) (fun _ _ _ h => h) (Or.inl ⟨(by kernel_rfl), ?_⟩) (by first | trivial | assumption) ?_
                    rotate_left
                    · (intro w hSw; (try dsimp only at hSw); go_simp; try with_reducible rfl)
                    try simp only [Act.put, List.getElem_toArray, List.getElem_cons_zero, List.getElem_cons_succ, List.setIfInBounds_toArray, List.set_cons_zero, List.set_cons_succ]
                    refine wpAnyH_take (i := 46) (v := ?_) (o_at HG 46 rfl) Gns (by kernel_rfl) (by kernel_rfl) (fun _ _ _ h => h) (Or.inl ⟨(by kernel_rfl), ?_⟩) (by first | trivial | assumption) ?_
                    rotate_left
                    · (intro w hSw; (try dsimp only at hSw); go_simp; try with_reducible rfl)
                    try simp only [Act.put, List.getElem_toArray, List.getElem_cons_zero, List.getElem_cons_succ, List.setIfInBounds_toArray, List.set_cons_zero, List.set_cons_succ]
                    refine wpAnyH_take (i := 47) (v := ?_) (o_at HG 47 rfl) Gns (by kernel_rfl) (by kernel_rfl) (fun _ _ _ h => h) (Or.inl ⟨(by kernel_rfl), ?_⟩) (by first | trivial | assumption) ?_
                    rotate_left
                    · (intro w hSw; (try dsimp only at hSw); go_simp; try with_reducible rfl)
                    try simp only [Act.put, List.getElem_toArray, List.getElem_cons_zero, List.getElem_cons_succ, List.setIfInBounds_toArray, List.set_cons_zero, List.set_cons_succ]
                    refine wpAnyH_done (by kernel_rfl) ?_ _
                    clear z0 z1 z2 z3 z4 hiw hiu hge HRD hS0
                    go_wp2
                    go_roundw
                    case rel => exact ⟨k + 1, q + 1, by omega, by omega, by go_num, by go_num, Lib.hid (by rw [left_succ, HS.out, if_neg (by decide), List.length_append, ← HQ.out]; rfl), HB3'⟩
                    case measure => simp [intOf]; omega
              · obtain rfl : k = i := by omega
                have hqN : q = N := by rw [HQ.out, ← HNL.out]
                subst hqN
                clear HQ
                have HBW := Lib.hid (bel_then HB7.out HB3.out)
                go_wp2
                go_loopw [16, 17] (fun s16 s17 w' => ∃ (r t : Nat), r ≤ 21 ∧ t ≤ 1000 ∧ s17 = .int .i64 r ∧ s16 = .int .i64 t ∧ Hid (t = sumTo ps r) ∧ Hid (Below wc.heap.size wc w')) (fun _ s17 _ => 21 - (intOf s17).toNat)
                case atStart => exact ⟨0, 0, by omega, by omega, rfl, rfl, Lib.hid rfl, HBW⟩
                case round =>
                  obtain ⟨r, t, hr, ht, rfl, rfl, HT, HBR⟩ := hrel
                  by_cases hlt4 : r < 21
                  · go_wp2_with fail
                    refine (to_any _ ps r wr (by omega) (HWT2.out wr HBR.out)).mono ?_
                    rintro e w10 ⟨v10, rfl, ho10, hb10⟩
                    obtain ⟨A10, c10, rfl, -, -⟩ := ho10.reads
                    have hlen10 := idsFor_len ps r
                    obtain ⟨m10, hm10⟩ : ∃ m, m = (idsFor ps (r : Int)).length := ⟨_, rfl⟩
                    rw [← hm10] at hlen10 ⊢
                    have HM10 := Lib.hid hm10
                    have HB10 := Lib.hid (bel_then HBR.out hb10)
                    have hle := sumTo_le ps (r + 1)
                    have hst : sumTo ps (r + 1) = t + m10 := by rw [HT.out, hm10]; rfl
                    have hbd : t + m10 ≤ 1000 := by rw [hst] at hle; have : ps.length * (r + 1) ≤ 41 * 21 := Nat.mul_le_mul hplen (by omega); omega
                    have HST := Lib.hid hst
                    clear hm10 hb10 ho10 hle hst
                    go_wp2
                    go_roundw
                    case rel => exact ⟨r + 1, t + m10, by omega, hbd, by go_num, by go_num, Lib.hid HST.out.symm, HB10⟩
                    case measure => simp [intOf]; omega
                  · obtain rfl : r = 21 := by omega
                    have htN : t = q := by rw [HT.out, HSUM.out, ← HNP.out]
                    subst htN
                    go_wp2_with fail
                    refine (send_at (fun _ => 0) 1 g k ps 0 none 0 0 [] wr _ (HL.out.grow HBR.out (fun _ => 0)) (RC.nil _ _ _ _) (by omega) ⟨Nat.le_refl _, fun _ => rfl⟩ ⟨by omega, by omega, by simp⟩ (by omega) (by omega) (by omega) 0 rfl).mono ?_
                    rintro e w12 ⟨rfl, c12, A12, k12, s12, l12⟩
                    have HO12 := Lib.hid ((HO.out.grow HBR.out (fun _ => 0)).step s12 (by omega))
                    clear s12 l12
                    go_wp2_with fail
                    refine (awake_any w12).mono ?_
                    rintro e w13 ⟨rfl, hb13⟩
                    have HB13 := Lib.hid (bel_then HO12.out.below hb13)
                    clear hb13
                    go_wp2
                    go_ret
                    exact ⟨rfl, HB13.out⟩

set_option maxRecDepth 100000 in
set_option maxHeartbeats 2000000 in
theorem order_main (A B : Option Addr) (c c' : Nat) (xs ys : List Int) (w : World) (hx : RI w A xs) (hy : RI w B ys) (hxb : ∀ x ∈ xs, -9223372036854775808 ≤ x ∧ x ≤ 9223372036854775807) (hyb : ∀ x ∈ ys, -9223372036854775808 ≤ x ∧ x ≤ 9223372036854775807) :
    Calls Try.prog 5 #[.slice A xs.length c, .slice B ys.length c'] w fun e w' => e = .returned (.bool true) ∧ Below w.heap.size w w' := by
  by_cases h1 : xs.length ≤ 40
  · by_cases h2 : ys.length ≤ 40
    · exact order_walk A B c c' xs ys w hx hy hxb hyb h1 h2
    · generalize ys.length = m at *
      generalize xs.length = n at *
      have hz1 : decide (40 < (n : Int)) = false := by simp; omega
      have hz2 : decide (40 < (m : Int)) = true := by simp; omega
      clear hx hy hxb hyb
      go_enter Try.func5, Try.ntmps5
      go_wp2_with fail
      refine (awake_any w).mono ?_
      rintro e w1 ⟨rfl, hb⟩
      have HB := Lib.hid hb
      clear hb
      go_wp2
      go_ret
      exact ⟨rfl, HB.out⟩
  · generalize ys.length = m at *
    generalize xs.length = n at *
    have hz1 : decide (40 < (n : Int)) = true := by simp; omega
    clear hx hy hxb hyb
    go_enter Try.func5, Try.ntmps5
    go_wp2_with fail
    refine (awake_any w).mono ?_
    rintro e w1 ⟨rfl, hb⟩
    have HB := Lib.hid hb
    clear hb
    go_wp2
    go_ret
    exact ⟨rfl, HB.out⟩
end Go.Proofs.Ytbjkeakehdljlaa
