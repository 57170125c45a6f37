/- The walk of JournalTurns. Conditions: none. -/
import Derived.Test.YtdldclakkplliaaJAwake
import Derived.Deep.CutRange
namespace Go.Proofs.Ytdldclakkplliaa
set_option linter.unusedVariables false
set_option linter.unusedSimpArgs false
open Go.RowKit

noncomputable def G11 : Array Oper := regionOf Try.f11 12
theorem Gns11 : Region.noSelect G11 = true := by kernel_rfl
theorem RI.old {w0 w : World} {col : Nat → Nat} {A : Option Addr} {xs : List Int} (h : RI w0 A xs) (ho : Old w0 w col) : 0 < xs.length → ∀ ad, A = some ad → col ad.block = 0 := by
  intro hp ad e
  obtain ⟨ad', e', hc⟩ := h.at_ 0 hp
  rw [e] at e'
  cases e'
  have := World.block_lt_of_cell? w0 _ hc
  rw [add_block] at this
  exact ho.zero _ this
/-- What the loop keeps. -/
structure TK (w wr : World) (col : Nat → Nat) (id gd mb t n : Nat) (d : DK) (half num endp : Nat) (base : List UInt8) (recs : List (List UInt8)) : Prop where
  old : Old w wr col
  disk : DiskAt wr col id gd mb d
  nz : id ≠ 0 ∧ id ≠ 2
  calm : Calm d (10000 * t)
  n200 : d.n = 200
  held : Held d half num base recs endp
  num : num ≤ t
  base : 0 < t → base = datB (10 * ((t : Int) - 1)) ((t : Int) - 1)
  recs : 0 < t → recs.length = n
structure TI (w wr : World) (col : Nat → Nat) (id gd mb gj t i : Nat) (d : DK) (j : JK) (B : List UInt8) : Prop where
  old : Old w wr col
  js : JS wr col id 2 gd mb gj (10000 * t + 1000 + 1000 * i) d j
  z1 : id ≠ 0
  z2 : id ≠ 2
  num : j.number ≤ t + 1
  n200 : d.n = 200
  base : j.base.b = B
  endp : j.endp ≤ 400 + 320 * i
  rl : j.recs.length = i
set_option maxRecDepth 100000 in
set_option maxHeartbeats 16000000 in
theorem jturns_walk (T n : Nat) (A : Option Addr) (c : Nat) (ps : List Int) (w : World) (hra : RI w A ps) (hwa : ∀ x ∈ ps, -9223372036854775808 ≤ x ∧ x ≤ 9223372036854775807) (hT : T ≤ 12) (hn : n ≤ 6) (hl : ps.length ≤ 5) :
    Calls Try.prog 11 #[.int .i64 T, .int .i64 n, .slice A ps.length c] w fun e w' => e = .returned (.bool true) ∧ Below w.heap.size w w' := by
  have HRA := Lib.hid hra
  have HWA := Lib.hid hwa
  obtain ⟨l, hxl⟩ : ∃ m, m = ps.length := ⟨_, rfl⟩
  rw [← hxl] at hl ⊢
  have XL := Lib.hid hxl
  have hz1 : decide ((T : Int) < 0) = false := by simp
  have hz2 : decide (12 < (T : Int)) = false := by simp; omega
  have hz3 : decide ((n : Int) < 0) = false := by simp
  have hz4 : decide (6 < (n : Int)) = false := by simp; omega
  have hz5 : decide (5 < (l : Int)) = false := by simp; omega
  clear hra hwa hxl
  go_enter Try.func11, Try.ntmps11
  go_wp2_with fail
  refine (new_any 1 200 (by omega) w (fun _ => 0) ⟨by omega, by omega⟩).mono ?_
  rintro e w1 ⟨gd, mb, c1, rfl, s1, h1⟩
  have HT1 : Hid (TK w w1 c1 1 gd mb 0 n (newDK 200) 0 0 64 [] []) := Lib.hid ⟨(Old.init w).step s1 (by omega), h1, by omega, Calm.new 200 ⟨by omega, by omega⟩, rfl, HInv.new 200 (by omega), Nat.le_refl _, fun h => by omega, fun h => by omega⟩
  clear s1 h1 hz1 hz2 hz3 hz4 hz5
  go_wp2
  go_loopw [7, 9, 10, 11, 12] (fun u7 u9 u10 u11 u12 w' => ∃ (t id gd mb half num endp : Nat) (col : Nat → Nat) (d : DK) (base : List UInt8) (recs : List (List UInt8)), t ≤ T + 1 ∧ u9 = .int .i64 t ∧ u7 = .pointer (some ⟨gd, 0, none⟩) ∧ Hid (TK w w' col id gd mb t n d half num endp base recs)) (fun _ u9 _ _ _ _ => T + 1 - (intOf u9).toNat)
  case atStart => exact ⟨0, 1, gd, mb, 0, 0, 64, c1, _, _, _, by omega, rfl, rfl, HT1⟩
  case round =>
    clear HT1
    obtain ⟨t, id, gd, mb, half, num, endp, col, d, base, recs, ht, rfl, rfl, HK⟩ := hrel
    by_cases hlt : t ≤ T
    · go_wp2_with fail
      refine (open_js id 2 gd mb (10000 * t) d half num base recs endp wr col HK.out.disk HK.out.nz.1 (by omega) HK.out.nz.2 HK.out.calm HK.out.held).mono ?_
      rintro e w2 ⟨gj, j, c2, rfl, p2, S2, q1, q2, q3, q4, q5⟩
      have O2 := Lib.hid (HK.out.old.path p2 (Only.nz (by omega)))
      have J2 := Lib.hid S2
      have HJ2 : Hid (j.number ≤ t ∧ d.n = 200 ∧ id ≠ 0 ∧ id ≠ 2 ∧ (0 < t → j.base.b = datB (10 * ((t : Int) - 1)) ((t : Int) - 1)) ∧ (0 < t → j.recs.length = n)) := Lib.hid ⟨by rw [q2]; exact HK.out.num, HK.out.n200, HK.out.nz.1, HK.out.nz.2, by rw [q3]; exact HK.out.base, fun h => by have := HK.out.recs h; rw [← q4, List.length_map] at this; exact this⟩
      clear p2 S2 q1 q2 q3 q4 q5 HK
      go_upto_region 12 with fail
      go_cut [81] from 43 to 112 (fun s81 wx => s81 = .bool false ∧ Hid (Below w2.heap.size w2 wx))
      case first =>
        obtain ⟨X0, hV⟩ : ∃ V, V = w2.drew := ⟨_, rfl⟩
        have hbV : Below w2.heap.size w2 X0 := by rw [hV]; exact bel_drew (Below.refl _ _)
        have HBX0 := Lib.hid hbV
        clear hbV
        by_cases hz : t = 0
        · subst hz
          clear hV HBX0
          refine region_const (G := G11) (S := fun X => True) (n := 23) (by kernel_rfl) (by kernel_rfl) rfl trivial (fun HG hS0 => ?_)
          have Gns := Gns11
          have HBX0 := Lib.hid (bel_drew (Below.refl w2.heap.size w2))
          refine wpAnyH_take (i := 0) (v := ?_) (o_at HG 0 rfl) Gns (by kernel_rfl) (by kernel_rfl) (fun _ _ _ h => h) (Or.inl ⟨(by kernel_rfl), ?_⟩) (by first | trivial | assumption) ?_
          rotate_left
          · (intro w hSw; (try dsimp only at hSw); go_simp; try with_reducible rfl)
          try simp only [Act.put, List.getElem_toArray, List.getElem_cons_zero, List.getElem_cons_succ, List.setIfInBounds_toArray, List.set_cons_zero, List.set_cons_succ]
          refine wpAnyH_take (i := 1) (v := ?_) (o_at HG 1 rfl) Gns (by kernel_rfl) (by kernel_rfl) (fun _ _ _ h => h) (Or.inl ⟨(by kernel_rfl), ?_⟩) (by first | trivial | assumption) ?_
          rotate_left
          · (intro w hSw; (try dsimp only at hSw); go_simp; try with_reducible rfl)
          try simp only [Act.put, List.getElem_toArray, List.getElem_cons_zero, List.getElem_cons_succ, List.setIfInBounds_toArray, List.set_cons_zero, List.set_cons_succ]
          refine wpAnyH_take (i := 2) (v := ?_) (o_at HG 2 rfl) Gns (by kernel_rfl) (by kernel_rfl) (fun _ _ _ h => h) (Or.inl ⟨(by kernel_rfl), ?_⟩) (by first | trivial | assumption) ?_
          rotate_left
          · (intro w hSw; (try dsimp only at hSw); go_simp; try with_reducible rfl)
          try simp only [Act.put, List.getElem_toArray, List.getElem_cons_zero, List.getElem_cons_succ, List.setIfInBounds_toArray, List.set_cons_zero, List.set_cons_succ]
          refine wpAnyH_take (i := 3) (v := undef) (o_at HG 3 rfl) Gns (by kernel_rfl) (by kernel_rfl) (fun _ _ _ h => h) (Or.inr ⟨(by kernel_rfl), rfl⟩) (by first | trivial | assumption) ?_
          try simp only [Act.put, List.getElem_toArray, List.getElem_cons_zero, List.getElem_cons_succ, List.setIfInBounds_toArray, List.set_cons_zero, List.set_cons_succ]
          refine wpAnyH_take (i := 4) (v := undef) (o_at HG 4 rfl) Gns (by kernel_rfl) (by kernel_rfl) (fun _ _ _ h => h) (Or.inr ⟨(by kernel_rfl), rfl⟩) (by first | trivial | assumption) ?_
          try simp only [Act.put, List.getElem_toArray, List.getElem_cons_zero, List.getElem_cons_succ, List.setIfInBounds_toArray, List.set_cons_zero, List.set_cons_succ]
          refine wpAnyH_take (i := 5) (v := undef) (o_at HG 5 rfl) Gns (by kernel_rfl) (by kernel_rfl) (fun _ _ _ h => h) (Or.inr ⟨(by kernel_rfl), rfl⟩) (by first | trivial | assumption) ?_
          try simp only [Act.put, List.getElem_toArray, List.getElem_cons_zero, List.getElem_cons_succ, List.setIfInBounds_toArray, List.set_cons_zero, List.set_cons_succ]
          refine wpAnyH_take (i := 6) (v := undef) (o_at HG 6 rfl) Gns (by kernel_rfl) (by kernel_rfl) (fun _ _ _ h => h) (Or.inr ⟨(by kernel_rfl), rfl⟩) (by first | trivial | assumption) ?_
          try simp only [Act.put, List.getElem_toArray, List.getElem_cons_zero, List.getElem_cons_succ, List.setIfInBounds_toArray, List.set_cons_zero, List.set_cons_succ]
          refine wpAnyH_take (i := 7) (v := undef) (o_at HG 7 rfl) Gns (by kernel_rfl) (by kernel_rfl) (fun _ _ _ h => h) (Or.inr ⟨(by kernel_rfl), rfl⟩) (by first | trivial | assumption) ?_
          try simp only [Act.put, List.getElem_toArray, List.getElem_cons_zero, List.getElem_cons_succ, List.setIfInBounds_toArray, List.set_cons_zero, List.set_cons_succ]
          refine wpAnyH_take (i := 8) (v := undef) (o_at HG 8 rfl) Gns (by kernel_rfl) (by kernel_rfl) (fun _ _ _ h => h) (Or.inr ⟨(by kernel_rfl), rfl⟩) (by first | trivial | assumption) ?_
          try simp only [Act.put, List.getElem_toArray, List.getElem_cons_zero, List.getElem_cons_succ, List.setIfInBounds_toArray, List.set_cons_zero, List.set_cons_succ]
          refine wpAnyH_take (i := 9) (v := undef) (o_at HG 9 rfl) Gns (by kernel_rfl) (by kernel_rfl) (fun _ _ _ h => h) (Or.inr ⟨(by kernel_rfl), rfl⟩) (by first | trivial | assumption) ?_
          try simp only [Act.put, List.getElem_toArray, List.getElem_cons_zero, List.getElem_cons_succ, List.setIfInBounds_toArray, List.set_cons_zero, List.set_cons_succ]
          refine wpAnyH_take (i := 10) (v := undef) (o_at HG 10 rfl) Gns (by kernel_rfl) (by kernel_rfl) (fun _ _ _ h => h) (Or.inr ⟨(by kernel_rfl), rfl⟩) (by first | trivial | assumption) ?_
          try simp only [Act.put, List.getElem_toArray, List.getElem_cons_zero, List.getElem_cons_succ, List.setIfInBounds_toArray, List.set_cons_zero, List.set_cons_succ]
          refine wpAnyH_take (i := 11) (v := undef) (o_at HG 11 rfl) Gns (by kernel_rfl) (by kernel_rfl) (fun _ _ _ h => h) (Or.inr ⟨(by kernel_rfl), rfl⟩) (by first | trivial | assumption) ?_
          try simp only [Act.put, List.getElem_toArray, List.getElem_cons_zero, List.getElem_cons_succ, List.setIfInBounds_toArray, List.set_cons_zero, List.set_cons_succ]
          refine wpAnyH_take (i := 12) (v := undef) (o_at HG 12 rfl) Gns (by kernel_rfl) (by kernel_rfl) (fun _ _ _ h => h) (Or.inr ⟨(by kernel_rfl), rfl⟩) (by first | trivial | assumption) ?_
          try simp only [Act.put, List.getElem_toArray, List.getElem_cons_zero, List.getElem_cons_succ, List.setIfInBounds_toArray, List.set_cons_zero, List.set_cons_succ]
          refine wpAnyH_take (i := 13) (v := undef) (o_at HG 13 rfl) Gns (by kernel_rfl) (by kernel_rfl) (fun _ _ _ h => h) (Or.inr ⟨(by kernel_rfl), rfl⟩) (by first | trivial | assumption) ?_
          try simp only [Act.put, List.getElem_toArray, List.getElem_cons_zero, List.getElem_cons_succ, List.setIfInBounds_toArray, List.set_cons_zero, List.set_cons_succ]
          refine wpAnyH_take (i := 14) (v := undef) (o_at HG 14 rfl) Gns (by kernel_rfl) (by kernel_rfl) (fun _ _ _ h => h) (Or.inr ⟨(by kernel_rfl), rfl⟩) (by first | trivial | assumption) ?_
          try simp only [Act.put, List.getElem_toArray, List.getElem_cons_zero, List.getElem_cons_succ, List.setIfInBounds_toArray, List.set_cons_zero, List.set_cons_succ]
          refine wpAnyH_take (i := 15) (v := undef) (o_at HG 15 rfl) Gns (by kernel_rfl) (by kernel_rfl) (fun _ _ _ h => h) (Or.inr ⟨(by kernel_rfl), rfl⟩) (by first | trivial | assumption) ?_
          try simp only [Act.put, List.getElem_toArray, List.getElem_cons_zero, List.getElem_cons_succ, List.setIfInBounds_toArray, List.set_cons_zero, List.set_cons_succ]
          refine wpAnyH_take (i := 16) (v := undef) (o_at HG 16 rfl) Gns (by kernel_rfl) (by kernel_rfl) (fun _ _ _ h => h) (Or.inr ⟨(by kernel_rfl), rfl⟩) (by first | trivial | assumption) ?_
          try simp only [Act.put, List.getElem_toArray, List.getElem_cons_zero, List.getElem_cons_succ, List.setIfInBounds_toArray, List.set_cons_zero, List.set_cons_succ]
          refine wpAnyH_take (i := 17) (v := undef) (o_at HG 17 rfl) Gns (by kernel_rfl) (by kernel_rfl) (fun _ _ _ h => h) (Or.inr ⟨(by kernel_rfl), rfl⟩) (by first | trivial | assumption) ?_
          try simp only [Act.put, List.getElem_toArray, List.getElem_cons_zero, List.getElem_cons_succ, List.setIfInBounds_toArray, List.set_cons_zero, List.set_cons_succ]
          refine wpAnyH_take (i := 18) (v := undef) (o_at HG 18 rfl) Gns (by kernel_rfl) (by kernel_rfl) (fun _ _ _ h => h) (Or.inr ⟨(by kernel_rfl), rfl⟩) (by first | trivial | assumption) ?_
          try simp only [Act.put, List.getElem_toArray, List.getElem_cons_zero, List.getElem_cons_succ, List.setIfInBounds_toArray, List.set_cons_zero, List.set_cons_succ]
          refine wpAnyH_take (i := 19) (v := undef) (o_at HG 19 rfl) Gns (by kernel_rfl) (by kernel_rfl) (fun _ _ _ h => h) (Or.inr ⟨(by kernel_rfl), rfl⟩) (by first | trivial | assumption) ?_
          try simp only [Act.put, List.getElem_toArray, List.getElem_cons_zero, List.getElem_cons_succ, List.setIfInBounds_toArray, List.set_cons_zero, List.set_cons_succ]
          refine wpAnyH_take (i := 20) (v := undef) (o_at HG 20 rfl) Gns (by kernel_rfl) (by kernel_rfl) (fun _ _ _ h => h) (Or.inr ⟨(by kernel_rfl), rfl⟩) (by first | trivial | assumption) ?_
          try simp only [Act.put, List.getElem_toArray, List.getElem_cons_zero, List.getElem_cons_succ, List.setIfInBounds_toArray, List.set_cons_zero, List.set_cons_succ]
          refine wpAnyH_take (i := 21) (v := undef) (o_at HG 21 rfl) Gns (by kernel_rfl) (by kernel_rfl) (fun _ _ _ h => h) (Or.inr ⟨(by kernel_rfl), rfl⟩) (by first | trivial | assumption) ?_
          try simp only [Act.put, List.getElem_toArray, List.getElem_cons_zero, List.getElem_cons_succ, List.setIfInBounds_toArray, List.set_cons_zero, List.set_cons_succ]
          refine wpAnyH_take (i := 22) (v := ?_) (o_at HG 22 rfl) Gns (by kernel_rfl) (by kernel_rfl) (fun _ _ _ h => h) (Or.inl ⟨(by kernel_rfl), ?_⟩) (by first | trivial | assumption) ?_
          rotate_left
          · (intro w hSw; (try dsimp only at hSw); go_simp; try with_reducible rfl)
          try simp only [Act.put, List.getElem_toArray, List.getElem_cons_zero, List.getElem_cons_succ, List.setIfInBounds_toArray, List.set_cons_zero, List.set_cons_succ]
          refine wpAnyH_done (by kernel_rfl) ?_ _
          go_wp2
          go_meet
          exact ⟨rfl, HBX0⟩
        · have htp : 0 < t := by omega
          obtain ⟨bl, hbl⟩ : ∃ m, m = (datB (10 * ((t : Int) - 1)) ((t : Int) - 1)).length := ⟨_, rfl⟩
          obtain ⟨ST, hST⟩ : ∃ S : ByteArray, S = ⟨j.base.b.toArray⟩ := ⟨_, rfl⟩
          have hjb := HJ2.out.2.2.2.2.1 htp
          have hjr := HJ2.out.2.2.2.2.2 htp
          have HBL : Hid (j.base.b.length = bl) := Lib.hid (by rw [hjb, hbl])
          have HST : Hid ((⟨j.base.b.toArray⟩ : ByteArray) = ST) := Lib.hid hST.symm
          have HRN : Hid ((j.recs.map (·.b)).length ≤ 9223372036854775807) := Lib.hid (by rw [List.length_map]; omega)
          have HRL : Hid ((j.recs.map (·.b)).length = n) := Lib.hid (by rw [List.length_map]; exact hjr)
          have HB18 : Hid (∀ X, Below w2.heap.size w2 X → Calls Try.prog 18 #[.pointer (some ⟨gj, 0, none⟩)] X (CloneP j.base.b X)) := Lib.hid (fun X hX => base_js (J2.out.grow hX (fun _ => 0)))
          have HR19 : Hid (∀ X, Below w2.heap.size w2 X → Calls Try.prog 19 #[.pointer (some ⟨gj, 0, none⟩)] X fun e w' => ∃ v rs, e = .returned v ∧ NewL X w' v (j.recs.map (·.b)) rs ∧ Below X.heap.size X w') := Lib.hid (fun X hX => records_js (J2.out.grow hX (fun _ => 0)))
          have HD39 : Hid (∀ X, Below w2.heap.size w2 X → Calls Try.prog 39 #[.agg #[.int .i64 0, .int .i64 (IntKind.i64.wrap (10 * IntKind.i64.wrap ((t : Int) - 1))), .int .i64 (IntKind.i64.wrap ((t : Int) - 1))]] X (NewB X bl j.base.b)) := Lib.hid (fun X hX => by
            have w1 : IntKind.i64.wrap ((t : Int) - 1) = (t : Int) - 1 := by first | (go_num; done) | (simp [IntKind.wrap, IntKind.signed, IntKind.bits]; omega)
            have w2 : IntKind.i64.wrap (10 * ((t : Int) - 1)) = 10 * ((t : Int) - 1) := by first | (go_num; done) | (simp [IntKind.wrap, IntKind.signed, IntKind.bits]; omega)
            rw [w1, w2, hbl, hjb, datB_len]
            exact data_any 0 _ _ X ⟨by omega, by omega⟩)
          have hgt : decide ((0 : Int) < (t : Int)) = true := by simp; omega
          clear hbl hST hjb hjr hz
          refine region_const (G := G11) (S := fun X => True) (n := 23) (by kernel_rfl) (by kernel_rfl) rfl trivial (fun HG hS0 => ?_)
          have Gns := Gns11
          rw [← hV]
          clear hV
          refine wpAnyH_take (i := 0) (v := ?_) (o_at HG 0 rfl) Gns (by kernel_rfl) (by kernel_rfl) (fun _ _ _ h => h) (Or.inl ⟨(by kernel_rfl), ?_⟩) (by first | trivial | assumption) ?_
          rotate_left
          · (intro w hSw; (try dsimp only at hSw); go_simp; try with_reducible rfl)
          try simp only [Act.put, List.getElem_toArray, List.getElem_cons_zero, List.getElem_cons_succ, List.setIfInBounds_toArray, List.set_cons_zero, List.set_cons_succ]
          refine wpAnyH_take (i := 1) (v := ?_) (o_at HG 1 rfl) Gns (by kernel_rfl) (by kernel_rfl) (fun _ _ _ h => h) (Or.inl ⟨(by kernel_rfl), ?_⟩) (by first | trivial | assumption) ?_
          rotate_left
          · (intro w hSw; (try dsimp only at hSw); go_simp; try with_reducible rfl)
          try simp only [Act.put, List.getElem_toArray, List.getElem_cons_zero, List.getElem_cons_succ, List.setIfInBounds_toArray, List.set_cons_zero, List.set_cons_succ]
          refine wpAnyH_take (i := 2) (v := ?_) (o_at HG 2 rfl) Gns (by kernel_rfl) (by kernel_rfl) (fun _ _ _ h => h) (Or.inl ⟨(by kernel_rfl), ?_⟩) (by first | trivial | assumption) ?_
          rotate_left
          · (intro w hSw; (try dsimp only at hSw); go_simp; try with_reducible rfl)
          try simp only [Act.put, List.getElem_toArray, List.getElem_cons_zero, List.getElem_cons_succ, List.setIfInBounds_toArray, List.set_cons_zero, List.set_cons_succ]
          refine wpAnyH_take (i := 3) (v := ?_) (o_at HG 3 rfl) Gns (by kernel_rfl) (by kernel_rfl) (fun _ _ _ h => h) (Or.inl ⟨(by kernel_rfl), ?_⟩) (by first | trivial | assumption) ?_
          rotate_left
          · (intro w hSw; (try dsimp only at hSw); go_simp; try with_reducible rfl)
          try simp only [Act.put, List.getElem_toArray, List.getElem_cons_zero, List.getElem_cons_succ, List.setIfInBounds_toArray, List.set_cons_zero, List.set_cons_succ]
          refine wpAnyH_take (i := 6) (v := ?_) (o_at HG 6 rfl) Gns (by kernel_rfl) (by kernel_rfl) (fun _ _ _ h => h) (Or.inl ⟨(by kernel_rfl), ?_⟩) (by first | trivial | assumption) ?_
          rotate_left
          · (intro w hSw; (try dsimp only at hSw); go_simp; try with_reducible rfl)
          try simp only [Act.put, List.getElem_toArray, List.getElem_cons_zero, List.getElem_cons_succ, List.setIfInBounds_toArray, List.set_cons_zero, List.set_cons_succ]
          refine wpAnyH_take (i := 7) (v := ?_) (o_at HG 7 rfl) Gns (by kernel_rfl) (by kernel_rfl) (fun _ _ _ h => h) (Or.inl ⟨(by kernel_rfl), ?_⟩) (by first | trivial | assumption) ?_
          rotate_left
          · (intro w hSw; (try dsimp only at hSw); go_simp; try with_reducible rfl)
          try simp only [Act.put, List.getElem_toArray, List.getElem_cons_zero, List.getElem_cons_succ, List.setIfInBounds_toArray, List.set_cons_zero, List.set_cons_succ]
          refine wpAnyH_take (i := 8) (v := ?_) (o_at HG 8 rfl) Gns (by kernel_rfl) (by kernel_rfl) (fun _ _ _ h => h) (Or.inl ⟨(by kernel_rfl), ?_⟩) (by first | trivial | assumption) ?_
          rotate_left
          · (intro w hSw; (try dsimp only at hSw); go_simp; try with_reducible rfl)
          try simp only [Act.put, List.getElem_toArray, List.getElem_cons_zero, List.getElem_cons_succ, List.setIfInBounds_toArray, List.set_cons_zero, List.set_cons_succ]
          refine wpAnyH_take (i := 9) (v := ?_) (o_at HG 9 rfl) Gns (by kernel_rfl) (by kernel_rfl) (fun _ _ _ h => h) (Or.inl ⟨(by kernel_rfl), ?_⟩) (by first | trivial | assumption) ?_
          rotate_left
          · (intro w hSw; (try dsimp only at hSw); go_simp; try with_reducible rfl)
          try simp only [Act.put, List.getElem_toArray, List.getElem_cons_zero, List.getElem_cons_succ, List.setIfInBounds_toArray, List.set_cons_zero, List.set_cons_succ]
          refine wpAnyH_take (i := 10) (v := ?_) (o_at HG 10 rfl) Gns (by kernel_rfl) (by kernel_rfl) (fun _ _ _ h => h) (Or.inl ⟨(by kernel_rfl), ?_⟩) (by first | trivial | assumption) ?_
          rotate_left
          · (intro w hSw; (try dsimp only at hSw); go_simp; try with_reducible rfl)
          try simp only [Act.put, List.getElem_toArray, List.getElem_cons_zero, List.getElem_cons_succ, List.setIfInBounds_toArray, List.set_cons_zero, List.set_cons_succ]
          refine wpAnyH_take (i := 11) (v := ?_) (o_at HG 11 rfl) Gns (by kernel_rfl) (by kernel_rfl) (fun _ _ _ h => h) (Or.inl ⟨(by kernel_rfl), ?_⟩) (by first | trivial | assumption) ?_
          rotate_left
          · (intro w hSw; (try dsimp only at hSw); go_simp; try with_reducible rfl)
          try simp only [Act.put, List.getElem_toArray, List.getElem_cons_zero, List.getElem_cons_succ, List.setIfInBounds_toArray, List.set_cons_zero, List.set_cons_succ]
          refine wpAnyH_ready (rs := [4]) (by kernel_rfl) (by simp) ?_
          refine AllReadyH.cons (o_at HG 4 rfl) ?_ (AllReadyH.nil)
          · intro K' hK
            rw [if_pos (by kernel_rfl)]
            go_simp
            (with_reducible refine (HB18.out X0 HBX0.out).mono ?_)
            rintro e X1 ⟨v1, rfl, ob1, hb1⟩
            obtain ⟨A1, k1, e1, sv1, rb1⟩ := ob1.reads
            rw [HBL.out] at e1
            subst e1
            have HBX1 := Lib.hid (bel_then HBX0.out hb1)
            have Q5 : Hid (∀ X, Below X1.heap.size X1 X → (convert 22 9 (.slice A1 bl k1)).run Try.prog X = .ok (.string ST) X) := Lib.hid (fun X hX => by have := conv_str (c := k1) HBL.out.symm (rb1.below hX); rw [HST.out] at this; exact this)
            have HQB5 := Lib.hid (Below.refl X1.heap.size X1)
            clear ob1 sv1 rb1 hb1
            refine hK.out _ _ trivial (fun _ => ?_)
            try simp only [Act.put, List.getElem_toArray, List.getElem_cons_zero, List.getElem_cons_succ, List.setIfInBounds_toArray, List.set_cons_zero, List.set_cons_succ]
            refine wpAnyH_ready (rs := [5, 12]) (by kernel_rfl) (by simp) ?_
            refine AllReadyH.cons (o_at HG 5 rfl) ?_ (AllReadyH.cons (o_at HG 12 rfl) ?_ (AllReadyH.nil))
            · intro K' hK
              rw [if_pos (by kernel_rfl)]
              have q5 := Q5.out X1 HQB5.out
              go_simp
              clear q5
              refine hK.out _ _ trivial (fun _ => ?_)
              try simp only [Act.put, List.getElem_toArray, List.getElem_cons_zero, List.getElem_cons_succ, List.setIfInBounds_toArray, List.set_cons_zero, List.set_cons_succ]
              refine wpAnyH_ready (rs := [12]) (by kernel_rfl) (by simp) ?_
              refine AllReadyH.cons (o_at HG 12 rfl) ?_ (AllReadyH.nil)
              · intro K' hK
                rw [if_pos (by kernel_rfl)]
                go_simp
                (with_reducible refine (HD39.out X1 HBX1.out).mono ?_)
                rintro e X2 ⟨A2, k2, rfl, sv2, rb2, -, hb2⟩
                have HBX2 := Lib.hid (bel_then HBX1.out hb2)
                have Q13 : Hid (∀ X, Below X2.heap.size X2 X → (convert 22 9 (.slice A2 bl k2)).run Try.prog X = .ok (.string ST) X) := Lib.hid (fun X hX => by have := conv_str (c := k2) HBL.out.symm (rb2.below hX); rw [HST.out] at this; exact this)
                have HQB13 := Lib.hid (Below.refl X2.heap.size X2)
                clear sv2 rb2 hb2
                refine hK.out _ _ trivial (fun _ => ?_)
                try simp only [Act.put, List.getElem_toArray, List.getElem_cons_zero, List.getElem_cons_succ, List.setIfInBounds_toArray, List.set_cons_zero, List.set_cons_succ]
                refine wpAnyH_ready (rs := [13]) (by kernel_rfl) (by simp) ?_
                refine AllReadyH.cons (o_at HG 13 rfl) ?_ (AllReadyH.nil)
                · intro K' hK
                  rw [if_pos (by kernel_rfl)]
                  have q13 := Q13.out X2 HQB13.out
                  go_simp
                  clear q13
                  refine hK.out _ _ trivial (fun _ => ?_)
                  try simp only [Act.put, List.getElem_toArray, List.getElem_cons_zero, List.getElem_cons_succ, List.setIfInBounds_toArray, List.set_cons_zero, List.set_cons_succ]
                  refine wpAnyH_take (i := 14) (v := ?_) (o_at HG 14 rfl) Gns (by kernel_rfl) (by kernel_rfl) (fun _ _ _ h => h) (Or.inl ⟨(by kernel_rfl), ?_⟩) (by first | trivial | assumption) ?_
                  rotate_left
                  · (intro w hSw; (try dsimp only at hSw); go_simp; try with_reducible rfl)
                  try simp only [Act.put, List.getElem_toArray, List.getElem_cons_zero, List.getElem_cons_succ, List.setIfInBounds_toArray, List.set_cons_zero, List.set_cons_succ]
                  refine wpAnyH_take (i := 15) (v := ?_) (o_at HG 15 rfl) Gns (by kernel_rfl) (by kernel_rfl) (fun _ _ _ h => h) (Or.inl ⟨(by kernel_rfl), ?_⟩) (by first | trivial | assumption) ?_
                  rotate_left
                  · (intro w hSw; (try dsimp only at hSw); go_simp; try with_reducible rfl)
                  try simp only [Act.put, List.getElem_toArray, List.getElem_cons_zero, List.getElem_cons_succ, List.setIfInBounds_toArray, List.set_cons_zero, List.set_cons_succ]
                  refine wpAnyH_take (i := 16) (v := ?_) (o_at HG 16 rfl) Gns (by kernel_rfl) (by kernel_rfl) (fun _ _ _ h => h) (Or.inl ⟨(by kernel_rfl), ?_⟩) (by first | trivial | assumption) ?_
                  rotate_left
                  · (intro w hSw; (try dsimp only at hSw); go_simp; try with_reducible rfl)
                  try simp only [Act.put, List.getElem_toArray, List.getElem_cons_zero, List.getElem_cons_succ, List.setIfInBounds_toArray, List.set_cons_zero, List.set_cons_succ]
                  refine wpAnyH_take (i := 19) (v := ?_) (o_at HG 19 rfl) Gns (by kernel_rfl) (by kernel_rfl) (fun _ _ _ h => h) (Or.inl ⟨(by kernel_rfl), ?_⟩) (by first | trivial | assumption) ?_
                  rotate_left
                  · (intro w hSw; (try dsimp only at hSw); go_simp; try with_reducible rfl)
                  try simp only [Act.put, List.getElem_toArray, List.getElem_cons_zero, List.getElem_cons_succ, List.setIfInBounds_toArray, List.set_cons_zero, List.set_cons_succ]
                  refine wpAnyH_ready (rs := [17]) (by kernel_rfl) (by simp) ?_
                  refine AllReadyH.cons (o_at HG 17 rfl) ?_ (AllReadyH.nil)
                  · intro K' hK
                    rw [if_pos (by kernel_rfl)]
                    go_simp
                    (with_reducible refine (HR19.out X2 HBX2.out).mono ?_)
                    rintro e X3 ⟨v2, rs2, rfl, nl2, hb3⟩
                    obtain ⟨A3, k3, rfl, -, -⟩ := nl2.reads HRN.out
                    rw [HRL.out]
                    have HBX3 := Lib.hid (bel_then HBX2.out hb3)
                    clear nl2 hb3
                    refine hK.out _ _ trivial (fun _ => ?_)
                    try simp only [Act.put, List.getElem_toArray, List.getElem_cons_zero, List.getElem_cons_succ, List.setIfInBounds_toArray, List.set_cons_zero, List.set_cons_succ]
                    refine wpAnyH_take (i := 18) (v := ?_) (o_at HG 18 rfl) Gns (by kernel_rfl) (by kernel_rfl) (fun _ _ _ h => h) (Or.inl ⟨(by kernel_rfl), ?_⟩) (by first | trivial | assumption) ?_
                    rotate_left
                    · (intro w hSw; (try dsimp only at hSw); go_simp; try with_reducible rfl)
                    try simp only [Act.put, List.getElem_toArray, List.getElem_cons_zero, List.getElem_cons_succ, List.setIfInBounds_toArray, List.set_cons_zero, List.set_cons_succ]
                    refine wpAnyH_take (i := 20) (v := ?_) (o_at HG 20 rfl) Gns (by kernel_rfl) (by kernel_rfl) (fun _ _ _ h => h) (Or.inl ⟨(by kernel_rfl), ?_⟩) (by first | trivial | assumption) ?_
                    rotate_left
                    · (intro w hSw; (try dsimp only at hSw); go_simp; try with_reducible rfl)
                    try simp only [Act.put, List.getElem_toArray, List.getElem_cons_zero, List.getElem_cons_succ, List.setIfInBounds_toArray, List.set_cons_zero, List.set_cons_succ]
                    refine wpAnyH_take (i := 21) (v := ?_) (o_at HG 21 rfl) Gns (by kernel_rfl) (by kernel_rfl) (fun _ _ _ h => h) (Or.inl ⟨(by kernel_rfl), ?_⟩) (by first | trivial | assumption) ?_
                    rotate_left
                    · (intro w hSw; (try dsimp only at hSw); go_simp; try with_reducible rfl)
                    try simp only [Act.put, List.getElem_toArray, List.getElem_cons_zero, List.getElem_cons_succ, List.setIfInBounds_toArray, List.set_cons_zero, List.set_cons_succ]
                    refine wpAnyH_take (i := 22) (v := ?_) (o_at HG 22 rfl) Gns (by kernel_rfl) (by kernel_rfl) (fun _ _ _ h => h) (Or.inl ⟨(by kernel_rfl), ?_⟩) (by first | trivial | assumption) ?_
                    rotate_left
                    · (intro w hSw; (try dsimp only at hSw); go_simp; try with_reducible rfl)
                    try simp only [Act.put, List.getElem_toArray, List.getElem_cons_zero, List.getElem_cons_succ, List.setIfInBounds_toArray, List.set_cons_zero, List.set_cons_succ]
                    refine wpAnyH_done (by kernel_rfl) ?_ _
                    go_wp2
                    go_meet
                    exact ⟨rfl, HBX3⟩
            · intro K' hK
              rw [if_pos (by kernel_rfl)]
              go_simp
              (with_reducible refine (HD39.out X1 HBX1.out).mono ?_)
              rintro e X2 ⟨A2, k2, rfl, sv2, rb2, -, hb2⟩
              have HBX2 := Lib.hid (bel_then HBX1.out hb2)
              have Q13 : Hid (∀ X, Below X2.heap.size X2 X → (convert 22 9 (.slice A2 bl k2)).run Try.prog X = .ok (.string ST) X) := Lib.hid (fun X hX => by have := conv_str (c := k2) HBL.out.symm (rb2.below hX); rw [HST.out] at this; exact this)
              have HQB13 := Lib.hid (Below.refl X2.heap.size X2)
              have HQB5b := Lib.hid (bel_then HQB5.out hb2)
              clear HQB5
              have HQB5 := HQB5b
              clear HQB5b
              clear sv2 rb2 hb2
              refine hK.out _ _ trivial (fun _ => ?_)
              try simp only [Act.put, List.getElem_toArray, List.getElem_cons_zero, List.getElem_cons_succ, List.setIfInBounds_toArray, List.set_cons_zero, List.set_cons_succ]
              refine wpAnyH_ready (rs := [5, 13]) (by kernel_rfl) (by simp) ?_
              refine AllReadyH.cons (o_at HG 5 rfl) ?_ (AllReadyH.cons (o_at HG 13 rfl) ?_ (AllReadyH.nil))
              · intro K' hK
                rw [if_pos (by kernel_rfl)]
                have q5 := Q5.out X2 HQB5.out
                go_simp
                clear q5
                refine hK.out _ _ trivial (fun _ => ?_)
                try simp only [Act.put, List.getElem_toArray, List.getElem_cons_zero, List.getElem_cons_succ, List.setIfInBounds_toArray, List.set_cons_zero, List.set_cons_succ]
                refine wpAnyH_ready (rs := [13]) (by kernel_rfl) (by simp) ?_
                refine AllReadyH.cons (o_at HG 13 rfl) ?_ (AllReadyH.nil)
                · intro K' hK
                  rw [if_pos (by kernel_rfl)]
                  have q13 := Q13.out X2 HQB13.out
                  go_simp
                  clear q13
                  refine hK.out _ _ trivial (fun _ => ?_)
                  try simp only [Act.put, List.getElem_toArray, List.getElem_cons_zero, List.getElem_cons_succ, List.setIfInBounds_toArray, List.set_cons_zero, List.set_cons_succ]
                  refine wpAnyH_take (i := 14) (v := ?_) (o_at HG 14 rfl) Gns (by kernel_rfl) (by kernel_rfl) (fun _ _ _ h => h) (Or.inl ⟨(by kernel_rfl), ?_⟩) (by first | trivial | assumption) ?_
                  rotate_left
                  · (intro w hSw; (try dsimp only at hSw); go_simp; try with_reducible rfl)
                  try simp only [Act.put, List.getElem_toArray, List.getElem_cons_zero, List.getElem_cons_succ, List.setIfInBounds_toArray, List.set_cons_zero, List.set_cons_succ]
                  refine wpAnyH_take (i := 15) (v := ?_) (o_at HG 15 rfl) Gns (by kernel_rfl) (by kernel_rfl) (fun _ _ _ h => h) (Or.inl ⟨(by kernel_rfl), ?_⟩) (by first | trivial | assumption) ?_
                  rotate_left
                  · (intro w hSw; (try dsimp only at hSw); go_simp; try with_reducible rfl)
                  try simp only [Act.put, List.getElem_toArray, List.getElem_cons_zero, List.getElem_cons_succ, List.setIfInBounds_toArray, List.set_cons_zero, List.set_cons_succ]
                  refine wpAnyH_take (i := 16) (v := ?_) (o_at HG 16 rfl) Gns (by kernel_rfl) (by kernel_rfl) (fun _ _ _ h => h) (Or.inl ⟨(by kernel_rfl), ?_⟩) (by first | trivial | assumption) ?_
                  rotate_left
                  · (intro w hSw; (try dsimp only at hSw); go_simp; try with_reducible rfl)
                  try simp only [Act.put, List.getElem_toArray, List.getElem_cons_zero, List.getElem_cons_succ, List.setIfInBounds_toArray, List.set_cons_zero, List.set_cons_succ]
                  refine wpAnyH_take (i := 19) (v := ?_) (o_at HG 19 rfl) Gns (by kernel_rfl) (by kernel_rfl) (fun _ _ _ h => h) (Or.inl ⟨(by kernel_rfl), ?_⟩) (by first | trivial | assumption) ?_
                  rotate_left
                  · (intro w hSw; (try dsimp only at hSw); go_simp; try with_reducible rfl)
                  try simp only [Act.put, List.getElem_toArray, List.getElem_cons_zero, List.getElem_cons_succ, List.setIfInBounds_toArray, List.set_cons_zero, List.set_cons_succ]
                  refine wpAnyH_ready (rs := [17]) (by kernel_rfl) (by simp) ?_
                  refine AllReadyH.cons (o_at HG 17 rfl) ?_ (AllReadyH.nil)
                  · intro K' hK
                    rw [if_pos (by kernel_rfl)]
                    go_simp
                    (with_reducible refine (HR19.out X2 HBX2.out).mono ?_)
                    rintro e X3 ⟨v2, rs2, rfl, nl2, hb3⟩
                    obtain ⟨A3, k3, rfl, -, -⟩ := nl2.reads HRN.out
                    rw [HRL.out]
                    have HBX3 := Lib.hid (bel_then HBX2.out hb3)
                    clear nl2 hb3
                    refine hK.out _ _ trivial (fun _ => ?_)
                    try simp only [Act.put, List.getElem_toArray, List.getElem_cons_zero, List.getElem_cons_succ, List.setIfInBounds_toArray, List.set_cons_zero, List.set_cons_succ]
                    refine wpAnyH_take (i := 18) (v := ?_) (o_at HG 18 rfl) Gns (by kernel_rfl) (by kernel_rfl) (fun _ _ _ h => h) (Or.inl ⟨(by kernel_rfl), ?_⟩) (by first | trivial | assumption) ?_
                    rotate_left
                    · (intro w hSw; (try dsimp only at hSw); go_simp; try with_reducible rfl)
                    try simp only [Act.put, List.getElem_toArray, List.getElem_cons_zero, List.getElem_cons_succ, List.setIfInBounds_toArray, List.set_cons_zero, List.set_cons_succ]
                    refine wpAnyH_take (i := 20) (v := ?_) (o_at HG 20 rfl) Gns (by kernel_rfl) (by kernel_rfl) (fun _ _ _ h => h) (Or.inl ⟨(by kernel_rfl), ?_⟩) (by first | trivial | assumption) ?_
                    rotate_left
                    · (intro w hSw; (try dsimp only at hSw); go_simp; try with_reducible rfl)
                    try simp only [Act.put, List.getElem_toArray, List.getElem_cons_zero, List.getElem_cons_succ, List.setIfInBounds_toArray, List.set_cons_zero, List.set_cons_succ]
                    refine wpAnyH_take (i := 21) (v := ?_) (o_at HG 21 rfl) Gns (by kernel_rfl) (by kernel_rfl) (fun _ _ _ h => h) (Or.inl ⟨(by kernel_rfl), ?_⟩) (by first | trivial | assumption) ?_
                    rotate_left
                    · (intro w hSw; (try dsimp only at hSw); go_simp; try with_reducible rfl)
                    try simp only [Act.put, List.getElem_toArray, List.getElem_cons_zero, List.getElem_cons_succ, List.setIfInBounds_toArray, List.set_cons_zero, List.set_cons_succ]
                    refine wpAnyH_take (i := 22) (v := ?_) (o_at HG 22 rfl) Gns (by kernel_rfl) (by kernel_rfl) (fun _ _ _ h => h) (Or.inl ⟨(by kernel_rfl), ?_⟩) (by first | trivial | assumption) ?_
                    rotate_left
                    · (intro w hSw; (try dsimp only at hSw); go_simp; try with_reducible rfl)
                    try simp only [Act.put, List.getElem_toArray, List.getElem_cons_zero, List.getElem_cons_succ, List.setIfInBounds_toArray, List.set_cons_zero, List.set_cons_succ]
                    refine wpAnyH_done (by kernel_rfl) ?_ _
                    go_wp2
                    go_meet
                    exact ⟨rfl, HBX3⟩
              · intro K' hK
                rw [if_pos (by kernel_rfl)]
                have q13 := Q13.out X2 HQB13.out
                go_simp
                clear q13
                refine hK.out _ _ trivial (fun _ => ?_)
                try simp only [Act.put, List.getElem_toArray, List.getElem_cons_zero, List.getElem_cons_succ, List.setIfInBounds_toArray, List.set_cons_zero, List.set_cons_succ]
                refine wpAnyH_ready (rs := [5]) (by kernel_rfl) (by simp) ?_
                refine AllReadyH.cons (o_at HG 5 rfl) ?_ (AllReadyH.nil)
                · intro K' hK
                  rw [if_pos (by kernel_rfl)]
                  have q5 := Q5.out X2 HQB5.out
                  go_simp
                  clear q5
                  refine hK.out _ _ trivial (fun _ => ?_)
                  try simp only [Act.put, List.getElem_toArray, List.getElem_cons_zero, List.getElem_cons_succ, List.setIfInBounds_toArray, List.set_cons_zero, List.set_cons_succ]
                  refine wpAnyH_take (i := 14) (v := ?_) (o_at HG 14 rfl) Gns (by kernel_rfl) (by kernel_rfl) (fun _ _ _ h => h) (Or.inl ⟨(by kernel_rfl), ?_⟩) (by first | trivial | assumption) ?_
                  rotate_left
                  · (intro w hSw; (try dsimp only at hSw); go_simp; try with_reducible rfl)
                  try simp only [Act.put, List.getElem_toArray, List.getElem_cons_zero, List.getElem_cons_succ, List.setIfInBounds_toArray, List.set_cons_zero, List.set_cons_succ]
                  refine wpAnyH_take (i := 15) (v := ?_) (o_at HG 15 rfl) Gns (by kernel_rfl) (by kernel_rfl) (fun _ _ _ h => h) (Or.inl ⟨(by kernel_rfl), ?_⟩) (by first | trivial | assumption) ?_
                  rotate_left
                  · (intro w hSw; (try dsimp only at hSw); go_simp; try with_reducible rfl)
                  try simp only [Act.put, List.getElem_toArray, List.getElem_cons_zero, List.getElem_cons_succ, List.setIfInBounds_toArray, List.set_cons_zero, List.set_cons_succ]
                  refine wpAnyH_take (i := 16) (v := ?_) (o_at HG 16 rfl) Gns (by kernel_rfl) (by kernel_rfl) (fun _ _ _ h => h) (Or.inl ⟨(by kernel_rfl), ?_⟩) (by first | trivial | assumption) ?_
                  rotate_left
                  · (intro w hSw; (try dsimp only at hSw); go_simp; try with_reducible rfl)
                  try simp only [Act.put, List.getElem_toArray, List.getElem_cons_zero, List.getElem_cons_succ, List.setIfInBounds_toArray, List.set_cons_zero, List.set_cons_succ]
                  refine wpAnyH_take (i := 19) (v := ?_) (o_at HG 19 rfl) Gns (by kernel_rfl) (by kernel_rfl) (fun _ _ _ h => h) (Or.inl ⟨(by kernel_rfl), ?_⟩) (by first | trivial | assumption) ?_
                  rotate_left
                  · (intro w hSw; (try dsimp only at hSw); go_simp; try with_reducible rfl)
                  try simp only [Act.put, List.getElem_toArray, List.getElem_cons_zero, List.getElem_cons_succ, List.setIfInBounds_toArray, List.set_cons_zero, List.set_cons_succ]
                  refine wpAnyH_ready (rs := [17]) (by kernel_rfl) (by simp) ?_
                  refine AllReadyH.cons (o_at HG 17 rfl) ?_ (AllReadyH.nil)
                  · intro K' hK
                    rw [if_pos (by kernel_rfl)]
                    go_simp
                    (with_reducible refine (HR19.out X2 HBX2.out).mono ?_)
                    rintro e X3 ⟨v2, rs2, rfl, nl2, hb3⟩
                    obtain ⟨A3, k3, rfl, -, -⟩ := nl2.reads HRN.out
                    rw [HRL.out]
                    have HBX3 := Lib.hid (bel_then HBX2.out hb3)
                    clear nl2 hb3
                    refine hK.out _ _ trivial (fun _ => ?_)
                    try simp only [Act.put, List.getElem_toArray, List.getElem_cons_zero, List.getElem_cons_succ, List.setIfInBounds_toArray, List.set_cons_zero, List.set_cons_succ]
                    refine wpAnyH_take (i := 18) (v := ?_) (o_at HG 18 rfl) Gns (by kernel_rfl) (by kernel_rfl) (fun _ _ _ h => h) (Or.inl ⟨(by kernel_rfl), ?_⟩) (by first | trivial | assumption) ?_
                    rotate_left
                    · (intro w hSw; (try dsimp only at hSw); go_simp; try with_reducible rfl)
                    try simp only [Act.put, List.getElem_toArray, List.getElem_cons_zero, List.getElem_cons_succ, List.setIfInBounds_toArray, List.set_cons_zero, List.set_cons_succ]
                    refine wpAnyH_take (i := 20) (v := ?_) (o_at HG 20 rfl) Gns (by kernel_rfl) (by kernel_rfl) (fun _ _ _ h => h) (Or.inl ⟨(by kernel_rfl), ?_⟩) (by first | trivial | assumption) ?_
                    rotate_left
                    · (intro w hSw; (try dsimp only at hSw); go_simp; try with_reducible rfl)
                    try simp only [Act.put, List.getElem_toArray, List.getElem_cons_zero, List.getElem_cons_succ, List.setIfInBounds_toArray, List.set_cons_zero, List.set_cons_succ]
                    refine wpAnyH_take (i := 21) (v := ?_) (o_at HG 21 rfl) Gns (by kernel_rfl) (by kernel_rfl) (fun _ _ _ h => h) (Or.inl ⟨(by kernel_rfl), ?_⟩) (by first | trivial | assumption) ?_
                    rotate_left
                    · (intro w hSw; (try dsimp only at hSw); go_simp; try with_reducible rfl)
                    try simp only [Act.put, List.getElem_toArray, List.getElem_cons_zero, List.getElem_cons_succ, List.setIfInBounds_toArray, List.set_cons_zero, List.set_cons_succ]
                    refine wpAnyH_take (i := 22) (v := ?_) (o_at HG 22 rfl) Gns (by kernel_rfl) (by kernel_rfl) (fun _ _ _ h => h) (Or.inl ⟨(by kernel_rfl), ?_⟩) (by first | trivial | assumption) ?_
                    rotate_left
                    · (intro w hSw; (try dsimp only at hSw); go_simp; try with_reducible rfl)
                    try simp only [Act.put, List.getElem_toArray, List.getElem_cons_zero, List.getElem_cons_succ, List.setIfInBounds_toArray, List.set_cons_zero, List.set_cons_succ]
                    refine wpAnyH_done (by kernel_rfl) ?_ _
                    go_wp2
                    go_meet
                    exact ⟨rfl, HBX3⟩
      case rest =>
        obtain ⟨rfl, HBC⟩ := hcut
        have O3 := Lib.hid (O2.out.grow HBC.out (fun _ => 0))
        have J3 := Lib.hid (J2.out.grow HBC.out (fun _ => 0))
        generalize paint w2 c2 (fun _ => 0) = c3 at *
        clear O2 J2 HBC
        obtain ⟨q, hq⟩ : ∃ m, m = ((10 * (t : Int)) % 300).toNat := ⟨_, rfl⟩
        obtain ⟨B, hB⟩ : ∃ B, B = datB (10 * (t : Int)) t := ⟨_, rfl⟩
        have hqB : B.length = q := by rw [hB, datB_len, hq]
        have HD39 : Hid (∀ X, Calls Try.prog 39 #[.agg #[.int .i64 0, .int .i64 (10 * (t : Int)), .int .i64 (t : Int)]] X (NewB X q B)) := Lib.hid (fun X => by
          rw [hq, hB]
          exact data_any 0 _ _ X ⟨by omega, by omega⟩)
        have HB := Lib.hid hB
        have HQB := Lib.hid hqB
        have hq3 : q ≤ 300 := by omega
        clear hq hB hqB
        go_wp2_with fail
        refine (HD39.out _).mono ?_
        rintro e w4 ⟨A4, k4, rfl, sv4, rb4, fr4, hb4⟩
        have O4 := Lib.hid (O3.out.grow hb4 (fun _ => 0))
        have J4 := Lib.hid (J3.out.grow hb4 (fun _ => 0))
        have R4 := Lib.hid (RC.new (col := c3) 0 rb4 fr4)
        have SV4 := Lib.hid sv4
        clear sv4 rb4 fr4 hb4 O3 J3 HD39
        have hrs := reset_js id 2 gd mb gj (10000 * t) d j A4 k4 B _ _ J4.out HJ2.out.2.2.1 (by omega) HJ2.out.2.2.2.1 R4.out (by rw [HQB.out]; exact SV4.out) (by omega) (by have := HJ2.out.1; omega) (by rw [HQB.out]; omega)
        rw [HQB.out] at hrs
        have HRS := Lib.hid hrs
        clear hrs
        go_wp2_with fail
        refine HRS.out.mono ?_
        rintro e w5 ⟨x, d5, j5, c5, rfl, p5, S5, n5, hx⟩
        have d200 := HJ2.out.2.1
        obtain ⟨rfl, -, r2, r3, r4, r5⟩ : x = 0 ∧ _ := by
          rcases hx with ⟨-, -, -, h4⟩ | hx
          · exfalso
            omega
          · exact hx
        have O5 := Lib.hid (O4.out.path p5 (Two.nz HJ2.out.2.2.1 (by omega)))
        have J5 := Lib.hid S5
        have HJ5 : Hid (j5.number ≤ t + 1 ∧ d5.n = 200 ∧ j5.base.b = B ∧ j5.endp ≤ 400 ∧ j5.recs = []) := Lib.hid ⟨by have := HJ2.out.1; omega, by omega, r3, by omega, r5⟩
        clear p5 S5 n5 hx d200 r2 r3 r4 r5 O4 J4 R4 SV4 HRS
        go_wp2_with fail
        refine (records_js J5.out).mono ?_
        rintro e w6 ⟨v6, rs6, rfl, nl6, hb6⟩
        obtain ⟨A6, k6, e6, -, -⟩ := nl6.reads (by rw [HJ5.out.2.2.2.2]; simp)
        rw [HJ5.out.2.2.2.2] at e6
        simp only [List.map_nil, List.length_nil] at e6
        subst e6
        have O6 := Lib.hid (O5.out.grow hb6 (fun _ => 0))
        have J6 := Lib.hid (J5.out.grow hb6 (fun _ => 0))
        generalize paint w5 c5 (fun _ => 0) = c6 at *
        have HTI : Hid (TI w w6 c6 id gd mb gj t 0 d5 j5 B) := Lib.hid ⟨O6.out, J6.out.more (by omega), HJ2.out.2.2.1, HJ2.out.2.2.2.1, HJ5.out.1, HJ5.out.2.1, HJ5.out.2.2.1, by have := HJ5.out.2.2.2.1; omega, by rw [HJ5.out.2.2.2.2]; rfl⟩
        clear nl6 hb6 O5 J5 O6 J6 HJ5
        go_wp2
        go_loopw [12] (fun u12 w' => ∃ (i : Nat) (col : Nat → Nat) (d : DK) (j : JK), i ≤ n ∧ u12 = .int .i64 i ∧ Hid (TI w w' col id gd mb gj t i d j B)) (fun u12 _ => n - (intOf u12).toNat)
        case atStart => exact ⟨0, _, _, _, by omega, rfl, HTI⟩
        case round =>
          clear HTI
          obtain ⟨i, c7, d7, j7, hi, rfl, HI⟩ := hrel
          by_cases hin : i < n
          · obtain ⟨q2, hq⟩ : ∃ m, m = ((i : Int) % 300).toNat := ⟨_, rfl⟩
            obtain ⟨B2, hB⟩ : ∃ B, B = datB (i : Int) t := ⟨_, rfl⟩
            have hqB : B2.length = q2 := by rw [hB, datB_len, hq]
            have HD39 : Hid (∀ X, Calls Try.prog 39 #[.agg #[.int .i64 0, .int .i64 (i : Int), .int .i64 (t : Int)]] X (NewB X q2 B2)) := Lib.hid (fun X => by
              rw [hq, hB]
              exact data_any 0 _ _ X ⟨by omega, by omega⟩)
            have HQB2 := Lib.hid hqB
            have hq32 : q2 ≤ 300 := by omega
            clear hq hB hqB
            go_wp2_with fail
            refine (HD39.out _).mono ?_
            rintro e w8 ⟨A8, k8, rfl, sv8, rb8, fr8, hb8⟩
            have O8 := Lib.hid (HI.out.old.grow hb8 (fun _ => 0))
            have J8 := Lib.hid (HI.out.js.grow hb8 (fun _ => 0))
            have R8 := Lib.hid (RC.new (col := c7) 0 rb8 fr8)
            have SV8 := Lib.hid sv8
            clear sv8 rb8 fr8 hb8 HD39
            have hap := append_js id 2 gd mb gj (10000 * t + 1000 + 1000 * i) d7 j7 A8 k8 B2 _ _ J8.out HI.out.z1 (by omega) HI.out.z2 R8.out (by rw [HQB2.out]; exact SV8.out) (by omega) (by have := HI.out.num; omega) (by rw [HQB2.out]; omega)
            rw [HQB2.out] at hap
            have HAP := Lib.hid hap
            clear hap
            go_wp2_with fail
            refine HAP.out.mono ?_
            rintro e w9 ⟨x, d9, j9, c9, rfl, p9, S9, n9, hx⟩
            have d200 := HI.out.n200
            have hend := HI.out.endp
            have hpl := placeN_le j7.endp
            obtain ⟨rfl, -, r2, r3, r4, r5⟩ : x = 0 ∧ _ := by
              rcases hx with ⟨-, -, -, h4⟩ | hx
              · exfalso
                unfold roomN at h4
                omega
              · exact hx
            have HTI : Hid (TI w w9 c9 id gd mb gj t (i + 1) d9 j9 B) := Lib.hid ⟨O8.out.path p9 (Two.nz HI.out.z1 (by omega)), S9.more (by omega), HI.out.z1, HI.out.z2, by rw [r2]; exact HI.out.num, by omega, by rw [r3]; exact HI.out.base, by omega, by
              have := congrArg List.length r5
              rw [List.length_append, List.length_map, List.length_map, HI.out.rl] at this
              exact this⟩
            clear p9 S9 n9 hx d200 hend hpl r2 r3 r4 r5 O8 J8 R8 SV8 HAP HI
            go_wp2
            go_roundw
            case rel => exact ⟨i + 1, c9, d9, j9, by omega, by go_num, HTI⟩
            case measure => simp [intOf]; omega
          · obtain rfl : i = n := by omega
            have hri := HRA.out.below HI.out.old.below
            have hzz := RI.old HRA.out HI.out.old
            have hcr := crash_js id (id + 3) gd mb (10000 * (t + 1)) d7 A c ps _ _ _ _ _ wr c7 HI.out.js.disk (fun w' col' s => hri.step hzz s (by omega)) (by omega) (by omega) (HI.out.js.calm.more (by omega)) (by omega) HI.out.js.inv HWA.out
            rw [← XL.out] at hcr
            have HCR := Lib.hid hcr
            clear hri hzz hcr
            go_wp2_with fail
            refine HCR.out.mono ?_
            rintro e w8 ⟨ge, me, de, c8, rfl, s8, h8, k8, i8, n8⟩
            have HTK : Hid (TK w w8 c8 (id + 3) ge me (t + 1) i de j7.half j7.number j7.endp j7.base.b (j7.recs.map (·.b))) := Lib.hid ⟨HI.out.old.step s8 (by omega), h8, by omega, k8, by rw [n8]; exact HI.out.n200, i8, HI.out.num, fun _ => by
              rw [HI.out.base, HB.out]
              congr 1 <;> omega, fun _ => by rw [List.length_map]; exact HI.out.rl⟩
            clear s8 h8 k8 i8 n8 HI HCR
            go_wp2
            go_roundw
            case rel => exact ⟨t + 1, id + 3, ge, me, _, _, _, c8, de, _, _, by omega, by go_num, rfl, HTK⟩
            case measure => simp [intOf]; omega
    · obtain rfl : t = T + 1 := by omega
      go_wp2_with fail
      refine (jawake_any wr).mono ?_
      rintro e w2 ⟨rfl, hb2⟩
      have O2 := Lib.hid (HK.out.old.below.trans (hb2.mono HK.out.old.below.size))
      clear hb2
      go_wp2
      go_ret
      exact ⟨rfl, O2.out⟩
theorem jturns_main (T n : Int) (A : Option Addr) (c : Nat) (ps : List Int) (w : World) (hra : RI w A ps) (hwa : ∀ x ∈ ps, -9223372036854775808 ≤ x ∧ x ≤ 9223372036854775807) :
    Calls Try.prog 11 #[.int .i64 T, .int .i64 n, .slice A ps.length c] w fun e w' => e = .returned (.bool true) ∧ Below w.heap.size w w' := by
  by_cases h : 0 ≤ T ∧ T ≤ 12 ∧ 0 ≤ n ∧ n ≤ 6 ∧ ps.length ≤ 5
  · obtain ⟨T, rfl⟩ := Int.eq_ofNat_of_zero_le h.1
    obtain ⟨n, rfl⟩ := Int.eq_ofNat_of_zero_le h.2.2.1
    exact jturns_walk T n A c ps w hra hwa (by omega) (by omega) h.2.2.2.2
  · obtain ⟨l, hl⟩ : ∃ m, m = ps.length := ⟨_, rfl⟩
    rw [← hl] at h ⊢
    clear hl hra hwa
    have hz : (decide (T < 0) || (decide (12 < T) || (decide (n < 0) || (decide (6 < n) || (decide (5 < (l : Int))))))) = true := by
      simp only [Bool.or_eq_true, decide_eq_true_eq]
      omega
    clear h 
    cases h1 : decide (T < 0) with
    | true =>
      clear hz
      go_enter Try.func11, Try.ntmps11
      go_wp2_with fail
      refine (jawake_any w).mono ?_
      rintro e w1 ⟨rfl, hb⟩
      have HB := Lib.hid hb
      clear hb
      go_wp2
      go_ret
      exact ⟨rfl, HB.out⟩
    | false =>
      rw [h1, Bool.false_or] at hz
      cases h2 : decide (12 < T) with
      | true =>
        clear hz
        go_enter Try.func11, Try.ntmps11
        go_wp2_with fail
        refine (jawake_any w).mono ?_
        rintro e w1 ⟨rfl, hb⟩
        have HB := Lib.hid hb
        clear hb
        go_wp2
        go_ret
        exact ⟨rfl, HB.out⟩
      | false =>
        rw [h2, Bool.false_or] at hz
        cases h3 : decide (n < 0) with
        | true =>
          clear hz
          go_enter Try.func11, Try.ntmps11
          go_wp2_with fail
          refine (jawake_any w).mono ?_
          rintro e w1 ⟨rfl, hb⟩
          have HB := Lib.hid hb
          clear hb
          go_wp2
          go_ret
          exact ⟨rfl, HB.out⟩
        | false =>
          rw [h3, Bool.false_or] at hz
          cases h4 : decide (6 < n) with
          | true =>
            clear hz
            go_enter Try.func11, Try.ntmps11
            go_wp2_with fail
            refine (jawake_any w).mono ?_
            rintro e w1 ⟨rfl, hb⟩
            have HB := Lib.hid hb
            clear hb
            go_wp2
            go_ret
            exact ⟨rfl, HB.out⟩
          | false =>
            rw [h4, Bool.false_or] at hz
            go_enter Try.func11, Try.ntmps11
            go_wp2_with fail
            refine (jawake_any w).mono ?_
            rintro e w1 ⟨rfl, hb⟩
            have HB := Lib.hid hb
            clear hb
            go_wp2
            go_ret
            exact ⟨rfl, HB.out⟩
end Go.Proofs.Ytdldclakkplliaa
