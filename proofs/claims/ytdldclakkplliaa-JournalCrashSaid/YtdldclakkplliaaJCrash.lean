/- The walk of JournalCrash. Conditions: none. -/
import Derived.Test.YtdldclakkplliaaJFallKeep
import Derived.Deep.CutRange
namespace Go.Proofs.Ytdldclakkplliaa
set_option linter.unusedVariables false
set_option linter.unusedSimpArgs false
open Go.RowKit

noncomputable def G4a : Array Oper := regionOf Try.f4 16
theorem Gns4a : Region.noSelect G4a = true := by kernel_rfl
noncomputable def G4b : Array Oper := regionOf Try.f4 22
theorem Gns4b : Region.noSelect G4b = true := by kernel_rfl
noncomputable def G4c : Array Oper := regionOf Try.f4 40
theorem Gns4c : Region.noSelect G4c = true := by kernel_rfl
theorem RI.old {w0 w : World} {col : Nat → Nat} {A : Option Addr} {xs : List Int} (h : RI w0 A xs) (ho : Old w0 w col) : 0 < xs.length → ∀ ad, A = some ad → col ad.block = 0 := by
  intro hp ad e
  obtain ⟨ad', e', hc⟩ := h.at_ 0 hp
  rw [e] at e'
  cases e'
  have := World.block_lt_of_cell? w0 _ hc
  rw [add_block] at this
  exact ho.zero _ this
theorem oth_new (n : Nat) (hn : 8 ≤ n) : Oth (vw (newDK n)) (n / 2) 0 0 := by
  have hl : ∀ i, (vw (newDK n) i).length = 64 := fun i => List.length_replicate ..
  have hz : ∀ s0, againN (halfK (vw (newDK n)) s0 (n / 2)) = 0 := fun s0 => by
    unfold againN
    refine cut_zero (by rw [halfK_len _ _ _ hl]; omega) fun i hi1 hi2 => ?_
    rw [halfK_getD _ _ _ _ hl (by omega)]
    exact zeros_at 64 _
  exact .inr ⟨rfl, hz _, hz _⟩
/-- Where the loop stands. -/
def LK (w wr : World) (gd mb gj g1 g2 l i : Nat) : Prop :=
  (i ≤ l ∧ ∃ (col : Nat → Nat) (d : DK) (j : JK) (x1 y1 x2 y2 : Value) (base : List UInt8) (ls : List (List UInt8)), AK w wr col gd mb gj g1 g2 i d j x1 y1 x2 y2 base ls) ∨
  (i = l + 1 ∧ ∃ (col : Nat → Nat) (d : DK) (x1 y1 x2 y2 : Value) (base1 : List UInt8) (ls1 : List (List UInt8)) (base2 : List UInt8) (ls2 : List (List UInt8)), CK w wr col gd mb g1 g2 d x1 y1 x2 y2 base1 ls1 base2 ls2)
set_option maxRecDepth 100000 in
set_option maxHeartbeats 16000000 in
theorem jcrash_walk (A : Option Addr) (c : Nat) (ss : List S3) (cut : Int) (Ap : Option Addr) (cp : Nat) (ps : List Int) (again : Int) (Am : Option Addr) (cm : Nat) (ms : List Int) (w : World) (hra : RT w A ss) (hwa : ∀ s ∈ ss, s.wf) (hrp : RI w Ap ps) (hwp : ∀ x ∈ ps, -9223372036854775808 ≤ x ∧ x ≤ 9223372036854775807) (hrm : RI w Am ms) (hwm : ∀ x ∈ ms, -9223372036854775808 ≤ x ∧ x ≤ 9223372036854775807)
    (hcut : 0 ≤ cut ∧ cut ≤ 9223372036854775807) (hag : 0 ≤ again ∧ again ≤ 9223372036854775807) (hl : ss.length ≤ 30) (hlp : ps.length ≤ 5) (hlm : ms.length ≤ 5) :
    Calls Try.prog 4 #[.slice A ss.length c, .int .i64 cut, .slice Ap ps.length cp, .int .i64 again, .slice Am ms.length cm] w fun e w' => e = .returned (.bool true) ∧ Below w.heap.size w w' := by
  have HRA := Lib.hid hra
  have HWA := Lib.hid hwa
  have HRP := Lib.hid hrp
  have HWP := Lib.hid hwp
  have HRM := Lib.hid hrm
  have HWM := Lib.hid hwm
  obtain ⟨l, hxl⟩ : ∃ m, m = ss.length := ⟨_, rfl⟩
  obtain ⟨lp, hxp⟩ : ∃ m, m = ps.length := ⟨_, rfl⟩
  obtain ⟨lm, hxm⟩ : ∃ m, m = ms.length := ⟨_, rfl⟩
  rw [← hxl] at hl ⊢
  rw [← hxp] at hlp ⊢
  rw [← hxm] at hlm ⊢
  have XL := Lib.hid hxl
  have XP := Lib.hid hxp
  have XM := Lib.hid hxm
  have HCUT := Lib.hid hcut
  have HAG := Lib.hid hag
  have hz1 : decide (30 < (l : Int)) = false := by simp; omega
  have hz2 : decide (cut < 0) = false := by simp; omega
  have hz3 : decide (again < 0) = false := by simp; omega
  have hz4 : decide (5 < (lp : Int)) = false := by simp; omega
  have hz5 : decide (5 < (lm : Int)) = false := by simp; omega
  clear hra hwa hrp hwp hrm hwm hxl hxp hxm hcut hag
  go_enter Try.func4, Try.ntmps4
  go_wp2_with fail
  refine (new_any 1 1000 (by omega) w (fun _ => 0) ⟨by omega, by omega⟩).mono ?_
  rintro e w1 ⟨gd, mb, c1, rfl, s1, h1⟩
  have O1 := Lib.hid ((Old.init w).step s1 (by omega))
  have D1 := Lib.hid h1
  clear s1 h1 hz1 hz2 hz3 hz4 hz5
  go_wp2_with fail
  refine (open_js 1 2 gd mb 0 (newDK 1000) 0 0 [] [] 64 w1 c1 D1.out (by omega) (by omega) (by omega) (Calm.new 1000 ⟨by omega, by omega⟩) (HInv.new 1000 (by omega))).mono ?_
  rintro e w2 ⟨gj, j0, c2, rfl, p2, S2, q1, q2, q3, q4, q5⟩
  have O2 := Lib.hid (O1.out.path p2 (Only.nz (by omega)))
  have J2 := Lib.hid S2
  have HJ2 : Hid (j0.half = 0 ∧ j0.number = 0 ∧ j0.base.b = [] ∧ j0.recs.map (·.b) = [] ∧ j0.endp = 64) := Lib.hid ⟨q1, q2, q3, q4, q5⟩
  clear p2 S2 q1 q2 q3 q4 q5 O1 D1
  obtain ⟨v2, hv2⟩ := J2.out.disk
  have HV2 := Lib.hid hv2
  clear hv2
  go_wp2_with fail
  refine (cut_any 1 gd mb v2 (newDK 1000) cut w2 c2 HV2.out).mono ?_
  rintro e w3 ⟨rfl, s3, h3⟩
  have hb4 := bel_alloc (bel_alloc (Below.refl w3.heap.size w3) (.cells #[.slice none 0 0, .slice none 0 0] 39)) (.cells #[.slice none 0 0, .slice none 0 0] 39)
  have hne : w3.heap.size + 1 = (w3.alloc (.cells #[.slice none 0 0, .slice none 0 0] 39)).heap.size := by simp
  have HLK : Hid (LK w ((w3.alloc (.cells #[.slice none 0 0, .slice none 0 0] 39)).alloc (.cells #[.slice none 0 0, .slice none 0 0] 39)) gd mb gj w3.heap.size (w3.heap.size + 1) l 0) := by
    have hg1 : ((w3.alloc (.cells #[.slice none 0 0, .slice none 0 0] 39)).alloc (.cells #[.slice none 0 0, .slice none 0 0] 39)).heap[w3.heap.size]? = some (.cells #[.slice none 0 0, .slice none 0 0] 39 (0, 0)) := by
      rw [Below.heap_alloc _ _ _ (by simp)]
      exact heap_alloc_new w3 _
    have hg2 : ((w3.alloc (.cells #[.slice none 0 0, .slice none 0 0] 39)).alloc (.cells #[.slice none 0 0, .slice none 0 0] 39)).heap[w3.heap.size + 1]? = some (.cells #[.slice none 0 0, .slice none 0 0] 39 (0, 0)) := by
      rw [hne]
      exact heap_alloc_new _ _
    have hcg := cut_gone (k := cut) (Calm.new 1000 ⟨by omega, by omega⟩) rfl HCUT.out.2
    have hjq : JQ w3 c2 1 2 gd mb gj (1000 * 0) (cutK (newDK 1000) cut) j0 := by
      refine ⟨⟨_, h3⟩, J2.out.jr.path (J := Only 1) (.step rfl .refl s3) (fun i hi => by have : i = 1 := hi; omega), ⟨rfl, ⟨by show 8 ≤ 1000; omega, by show 1000 ≤ 65536; omega⟩, hcg.fits, Nat.le_refl _⟩, J2.out.inv, ?_, J2.out.dead⟩
      rw [HJ2.out.1, HJ2.out.2.1]
      exact oth_new 1000 (by omega)
    refine Lib.hid (.inl ⟨by omega, paint w3 c2 (fun _ => 3), _, j0, _, _, _, _, [], [], (O2.out.step s3 (by omega)).grow hb4 _, hjq.grow hb4 _, rfl, by rw [HJ2.out.2.1]; omega, by rw [HJ2.out.2.2.2.2]; omega, ⟨hg1, hg2, paint_new (Nat.le_refl _), paint_new (by omega), by omega, Bk.zero _ _, Bk.zero _ _⟩, HJ2.out.2.2.1, HJ2.out.2.2.2.1, by simp⟩)
  clear s3 h3 O2 J2 HJ2 HV2 hb4 hne
  go_wp2
  generalize (w3.alloc (.cells #[.slice none 0 0, .slice none 0 0] 39)).alloc (.cells #[.slice none 0 0, .slice none 0 0] 39) = w4 at *
  generalize w3.heap.size + 1 = g2 at *
  generalize w3.heap.size = g1 at *
  go_loopw [17, 18] (fun u17 u18 w' => ∃ (i : Nat), u17 = .int .i64 i ∧ Hid (LK w w' gd mb gj g1 g2 l i)) (fun u17 _ _ => l + 1 - (intOf u17).toNat)
  case atStart => exact ⟨0, rfl, HLK⟩
  case round =>
    clear HLK
    obtain ⟨i, rfl, HL⟩ := hrel
    by_cases hlt : i < l
    · obtain ⟨col, d, j, x1, y1, x2, y2, base, ls, ha⟩ := (HL.out.resolve_right (by omega)).2
      have HK := Lib.hid ha
      clear ha HL
      obtain ⟨s, hs⟩ : ∃ s, ss[i]? = some s := ⟨_, List.getElem?_eq_getElem (by rw [← XL.out]; exact hlt)⟩
      obtain ⟨ad, rfl, -⟩ := HRA.out.at_ i s hs
      have HS := Lib.hid (HWA.out s (List.mem_of_getElem? hs))
      obtain ⟨sk, sn, sx⟩ := s
      have HEL : Hid (∀ X, Below w.heap.size w X → X.cell? (ad.add (i * 3)) = some (.int .i64 sk) ∧ X.cell? ⟨(ad.add (i * 3)).block, (ad.add (i * 3)).off + 1, none⟩ = some (.int .i64 sn) ∧ X.cell? ⟨(ad.add (i * 3)).block, (ad.add (i * 3)).off + 2, none⟩ = some (.int .i64 sx)) := Lib.hid (fun X hX => by
        obtain ⟨ad', e', h1, h2, h3⟩ := (HRA.out.below hX).at_ i ⟨sk, sn, sx⟩ hs
        cases e'
        exact ⟨h1, h2, h3⟩)
      have HSN : Hid (-9223372036854775808 ≤ sn ∧ sn ≤ 9223372036854775807) := Lib.hid HS.out.2.1
      obtain ⟨a0, a1, a2⟩ := HEL.out wr HK.out.old.below
      clear hs HS
      go_wp2_with fail
      refine (HK.out.does (by omega) sk sn sx HSN.out).mono ?_
      rintro e w5 ⟨x, d5, j5, c5, rfl, hx⟩
      rcases hx with ⟨rfl, hx⟩ | ⟨rfl, hx⟩
      · have K5 := Lib.hid hx
        clear hx HK a0 a1 a2
        go_upto_region 22 with fail
        obtain ⟨X0, hV⟩ : ∃ V, V = w5.drew := ⟨_, rfl⟩
        have hbV : Below w5.heap.size w5 X0 := by rw [hV]; exact bel_drew (Below.refl _ _)
        have K6 := Lib.hid (K5.out.grow hbV)
        generalize paint w5 c5 (fun _ => 0) = c6 at *
        have z := HEL.out X0 K6.out.old.below
        obtain ⟨⟨z0, z1⟩, -⟩ := K6.out.bx.cells
        clear hbV K5
        refine region_const (G := G4b) (S := fun X => X.cell? (ad.add (i * 3)) = some (.int .i64 sk) ∧ X.cell? ⟨(ad.add (i * 3)).block, (ad.add (i * 3)).off + 1, none⟩ = some (.int .i64 sn) ∧ X.cell? ⟨(ad.add (i * 3)).block, (ad.add (i * 3)).off + 2, none⟩ = some (.int .i64 sx)) (n := 7) (by kernel_rfl) (by kernel_rfl) rfl (by rw [← hV]; exact z) (fun HG hS0 => ?_)
        have Gns := Gns4b
        rw [← hV]
        rw [← hV] at hS0
        clear hV
        refine wpAnyH_take (i := 1) (v := ?_) (o_at HG 1 rfl) Gns (by kernel_rfl) (by kernel_rfl) (fun _ _ _ h => h) (Or.inl ⟨(by kernel_rfl), ?_⟩) (by first | trivial | assumption) ?_
        rotate_left
        · (intro w hSw; (try dsimp only at hSw); go_simp; try with_reducible rfl)
        try simp only [Act.put, List.getElem_toArray, List.getElem_cons_zero, List.getElem_cons_succ, List.setIfInBounds_toArray, List.set_cons_zero, List.set_cons_succ]
        refine wpAnyH_take (i := 2) (v := ?_) (o_at HG 2 rfl) Gns (by kernel_rfl) (by kernel_rfl) (fun _ _ _ h => h) (Or.inl ⟨(by kernel_rfl), ?_⟩) (by first | trivial | assumption) ?_
        rotate_left
        · (intro w hSw; (try dsimp only at hSw); go_simp; try with_reducible rfl)
        try simp only [Act.put, List.getElem_toArray, List.getElem_cons_zero, List.getElem_cons_succ, List.setIfInBounds_toArray, List.set_cons_zero, List.set_cons_succ]
        refine wpAnyH_take (i := 3) (v := ?_) (o_at HG 3 rfl) Gns (by kernel_rfl) (by kernel_rfl) (fun _ _ _ h => h) (Or.inl ⟨(by kernel_rfl), ?_⟩) (by first | trivial | assumption) ?_
        rotate_left
        · (intro w hSw; (try dsimp only at hSw); go_simp; try with_reducible rfl)
        try simp only [Act.put, List.getElem_toArray, List.getElem_cons_zero, List.getElem_cons_succ, List.setIfInBounds_toArray, List.set_cons_zero, List.set_cons_succ]
        refine wpAnyH_take (i := 4) (v := ?_) (o_at HG 4 rfl) Gns (by kernel_rfl) (by kernel_rfl) (fun _ _ _ h => h) (Or.inl ⟨(by kernel_rfl), ?_⟩) (by first | trivial | assumption) ?_
        rotate_left
        · (intro w hSw; (try dsimp only at hSw); go_simp; try with_reducible rfl)
        try simp only [Act.put, List.getElem_toArray, List.getElem_cons_zero, List.getElem_cons_succ, List.setIfInBounds_toArray, List.set_cons_zero, List.set_cons_succ]
        refine wpAnyH_ready (rs := [0]) (by kernel_rfl) (by simp) ?_
        refine AllReadyH.cons (o_at HG 0 rfl) ?_ (AllReadyH.nil)
        · intro K' hK
          rw [if_pos (by kernel_rfl)]
          go_simp
          refine hK.out _ _ z (fun _ => ?_)
          clear z0 z1
          try simp only [Act.put, List.getElem_toArray, List.getElem_cons_zero, List.getElem_cons_succ, List.setIfInBounds_toArray, List.set_cons_zero, List.set_cons_succ]
          refine wpAnyH_ready (rs := [5]) (by kernel_rfl) (by simp) ?_
          refine AllReadyH.cons (o_at HG 5 rfl) ?_ (AllReadyH.nil)
          · intro K' hK
            rw [if_pos (by kernel_rfl)]
            go_simp
            (with_reducible refine (done_any sk sn sx (.agg #[x1, y1]) base ls X0 c6 K6.out.bx.bk1 (by have := K6.out.len; omega) HSN.out).mono ?_)
            rintro e X1 ⟨v7, rfl, hb7, bk7⟩
            obtain ⟨x7, y7, rfl⟩ := bk7.two
            have CC7 : Hid (#[x7, y7].all (·.oneCell') = true) := Lib.hid bk7.one
            have HRO := Lib.hid (K6.out.bx.grow hb7).box1
            obtain ⟨o7, b7, k7⟩ := K6.out.put hb7 bk7
            have O7 := Lib.hid o7
            have B7 := Lib.hid b7
            have K7 := Lib.hid k7
            have z7 := HEL.out X1 (K6.out.old.grow hb7 (fun _ => 0)).below
            have z8 := HEL.out _ O7.out.below
            clear hb7 bk7 o7 b7 k7 z hS0 K6
            refine hK.out _ _ z7 (fun _ => ?_)
            clear z7
            try simp only [Act.put, List.getElem_toArray, List.getElem_cons_zero, List.getElem_cons_succ, List.setIfInBounds_toArray, List.set_cons_zero, List.set_cons_succ]
            refine wpAnyH_ready (rs := [6]) (by kernel_rfl) (by simp) ?_
            refine AllReadyH.cons (o_at HG 6 rfl) ?_ (AllReadyH.nil)
            · intro K' hK
              rw [if_pos (by kernel_rfl)]
              refine wp_store_row 39 _ _ rfl g1 #[x7, y7] rfl rfl 39 #[x1, y1] HRO.out rfl rfl CC7.out ?_
              refine hK.out _ _ z8 (fun _ => ?_)
              try simp only [Act.put, List.getElem_toArray, List.getElem_cons_zero, List.getElem_cons_succ, List.setIfInBounds_toArray, List.set_cons_zero, List.set_cons_succ]
              refine wpAnyH_done (by kernel_rfl) ?_ _
              apply_assumption
              clear HG HEL HSN O7 HRO z8
              obtain ⟨⟨z0, z1⟩, -⟩ := B7.out.cells
              have HRO2 := Lib.hid B7.out.box2
              clear B7
              generalize X1.setRow g1 #[x7, y7] = w8 at *
              go_wp2_with (first | (refine wpList_store_row rfl 39 _ _ rfl g2 #[x7, y7] rfl rfl 39 _ HRO2.out (by kernel_rfl) rfl CC7.out ?_; clear z0 z1 HRO2; generalize w8.setRow g2 #[x7, y7] = w9 at *) | fail)
              go_roundw
              case rel => exact ⟨i + 1, by go_num, Lib.hid (.inl ⟨by omega, _, _, _, _, _, _, _, _, _, K7.out⟩)⟩
              case measure => simp [intOf]; omega
      · have K5 := Lib.hid hx
        clear hx HK a0 a1 a2
        go_upto_region 16 with fail
        obtain ⟨X0, hV⟩ : ∃ V, V = w5.drew := ⟨_, rfl⟩
        have hbV : Below w5.heap.size w5 X0 := by rw [hV]; exact bel_drew (Below.refl _ _)
        have K6 := Lib.hid (K5.out.grow hbV)
        generalize paint w5 c5 (fun _ => 0) = c6 at *
        have z := HEL.out X0 K6.out.old.below
        obtain ⟨⟨z0, z1⟩, -⟩ := K6.out.bx.cells
        clear hbV K5
        refine region_const (G := G4a) (S := fun X => X.cell? (ad.add (i * 3)) = some (.int .i64 sk) ∧ X.cell? ⟨(ad.add (i * 3)).block, (ad.add (i * 3)).off + 1, none⟩ = some (.int .i64 sn) ∧ X.cell? ⟨(ad.add (i * 3)).block, (ad.add (i * 3)).off + 2, none⟩ = some (.int .i64 sx)) (n := 7) (by kernel_rfl) (by kernel_rfl) rfl (by rw [← hV]; exact z) (fun HG hS0 => ?_)
        have Gns := Gns4a
        rw [← hV]
        rw [← hV] at hS0
        clear hV
        refine wpAnyH_take (i := 1) (v := ?_) (o_at HG 1 rfl) Gns (by kernel_rfl) (by kernel_rfl) (fun _ _ _ h => h) (Or.inl ⟨(by kernel_rfl), ?_⟩) (by first | trivial | assumption) ?_
        rotate_left
        · (intro w hSw; (try dsimp only at hSw); go_simp; try with_reducible rfl)
        try simp only [Act.put, List.getElem_toArray, List.getElem_cons_zero, List.getElem_cons_succ, List.setIfInBounds_toArray, List.set_cons_zero, List.set_cons_succ]
        refine wpAnyH_take (i := 2) (v := ?_) (o_at HG 2 rfl) Gns (by kernel_rfl) (by kernel_rfl) (fun _ _ _ h => h) (Or.inl ⟨(by kernel_rfl), ?_⟩) (by first | trivial | assumption) ?_
        rotate_left
        · (intro w hSw; (try dsimp only at hSw); go_simp; try with_reducible rfl)
        try simp only [Act.put, List.getElem_toArray, List.getElem_cons_zero, List.getElem_cons_succ, List.setIfInBounds_toArray, List.set_cons_zero, List.set_cons_succ]
        refine wpAnyH_take (i := 3) (v := ?_) (o_at HG 3 rfl) Gns (by kernel_rfl) (by kernel_rfl) (fun _ _ _ h => h) (Or.inl ⟨(by kernel_rfl), ?_⟩) (by first | trivial | assumption) ?_
        rotate_left
        · (intro w hSw; (try dsimp only at hSw); go_simp; try with_reducible rfl)
        try simp only [Act.put, List.getElem_toArray, List.getElem_cons_zero, List.getElem_cons_succ, List.setIfInBounds_toArray, List.set_cons_zero, List.set_cons_succ]
        refine wpAnyH_take (i := 4) (v := ?_) (o_at HG 4 rfl) Gns (by kernel_rfl) (by kernel_rfl) (fun _ _ _ h => h) (Or.inl ⟨(by kernel_rfl), ?_⟩) (by first | trivial | assumption) ?_
        rotate_left
        · (intro w hSw; (try dsimp only at hSw); go_simp; try with_reducible rfl)
        try simp only [Act.put, List.getElem_toArray, List.getElem_cons_zero, List.getElem_cons_succ, List.setIfInBounds_toArray, List.set_cons_zero, List.set_cons_succ]
        refine wpAnyH_ready (rs := [0]) (by kernel_rfl) (by simp) ?_
        refine AllReadyH.cons (o_at HG 0 rfl) ?_ (AllReadyH.nil)
        · intro K' hK
          rw [if_pos (by kernel_rfl)]
          go_simp
          refine hK.out _ _ z (fun _ => ?_)
          clear z0 z1
          try simp only [Act.put, List.getElem_toArray, List.getElem_cons_zero, List.getElem_cons_succ, List.setIfInBounds_toArray, List.set_cons_zero, List.set_cons_succ]
          refine wpAnyH_ready (rs := [5]) (by kernel_rfl) (by simp) ?_
          refine AllReadyH.cons (o_at HG 5 rfl) ?_ (AllReadyH.nil)
          · intro K' hK
            rw [if_pos (by kernel_rfl)]
            go_simp
            (with_reducible refine (done_any sk sn sx (.agg #[x1, y1]) base ls X0 c6 K6.out.bx.bk1 (by have := K6.out.len; omega) HSN.out).mono ?_)
            rintro e X1 ⟨v7, rfl, hb7, bk7⟩
            obtain ⟨x7, y7, rfl⟩ := bk7.two
            have CC7 : Hid (#[x7, y7].all (·.oneCell') = true) := Lib.hid bk7.one
            have HRO := Lib.hid (K6.out.bx.grow hb7).box2
            obtain ⟨k7, j7⟩ := K6.out.put (by omega) hb7 bk7
            have HDD := Lib.hid K6.out.dead
            have J7 := Lib.hid j7
            have K7 := Lib.hid k7
            have z7 := HEL.out X1 (K6.out.old.grow hb7 (fun _ => 0)).below
            have z8 := HEL.out _ K7.out.old.below
            clear hb7 bk7 j7 k7 z hS0 K6
            refine hK.out _ _ z7 (fun _ => ?_)
            clear z7
            try simp only [Act.put, List.getElem_toArray, List.getElem_cons_zero, List.getElem_cons_succ, List.setIfInBounds_toArray, List.set_cons_zero, List.set_cons_succ]
            refine wpAnyH_ready (rs := [6]) (by kernel_rfl) (by simp) ?_
            refine AllReadyH.cons (o_at HG 6 rfl) ?_ (AllReadyH.nil)
            · intro K' hK
              rw [if_pos (by kernel_rfl)]
              refine wp_store_row 39 _ _ rfl g2 #[x7, y7] rfl rfl 39 #[x2, y2] HRO.out rfl rfl CC7.out ?_
              refine hK.out _ _ z8 (fun _ => ?_)
              try simp only [Act.put, List.getElem_toArray, List.getElem_cons_zero, List.getElem_cons_succ, List.setIfInBounds_toArray, List.set_cons_zero, List.set_cons_succ]
              refine wpAnyH_done (by kernel_rfl) ?_ _
              apply_assumption
              clear HG HEL HSN HRO z8
              generalize X1.setRow g2 #[x7, y7] = w8 at *
              obtain ⟨vr, hv⟩ := J7.out
              have HOB := Lib.hid hv.obj
              have HD25 := Lib.hid (HDD.out ▸ dead_any gj gd vr j5 w8 hv.obj)
              clear hv J7
              go_wp2_with fail
              refine HD25.out.mono ?_
              rintro e w' ⟨rfl, rfl⟩
              go_wp2_with fail
              refine (append_dead gj gd vr j5 _ HOB.out HDD.out).mono ?_
              rintro e w' ⟨rfl, rfl⟩
              clear HD25 HOB HDD
              go_wp2
              go_roundw
              case rel => exact ⟨l + 1, by go_num, Lib.hid (.inr ⟨rfl, _, _, _, _, _, _, _, _, _, _, K7.out⟩)⟩
              case measure => simp [intOf]; omega
    · obtain ⟨col, d, x1, y1, x2, y2, base1, ls1, base2, ls2, hck⟩ : ∃ (col : Nat → Nat) (d : DK) (x1 y1 x2 y2 : Value) (base1 : List UInt8) (ls1 : List (List UInt8)) (base2 : List UInt8) (ls2 : List (List UInt8)), CK w wr col gd mb g1 g2 d x1 y1 x2 y2 base1 ls1 base2 ls2 := by
        rcases HL.out with ⟨hle, col, d, j, x1, y1, x2, y2, base, ls, ha⟩ | ⟨-, col, d, x1, y1, x2, y2, base1, ls1, base2, ls2, hc⟩
        · exact ⟨_, _, _, _, _, _, _, _, _, _, ha.ck (by omega)⟩
        · exact ⟨_, _, _, _, _, _, _, _, _, _, hc⟩
      have HC := Lib.hid hck
      clear hck HL
      have hri := HRP.out.below HC.out.old.below
      have hzz := RI.old HRP.out HC.out.old
      have hcr := crash_gone 1 4 gd mb 100000 1000 d Ap cp ps wr col HC.out.disk (fun w' col' s => hri.step hzz s (by omega)) (by omega) (by omega) HC.out.gone ⟨by omega, by omega⟩ (by omega) HWP.out
      rw [← XP.out] at hcr
      have HCR := Lib.hid hcr
      clear hri hzz hcr
      go_wp2_with fail
      refine HCR.out.mono ?_
      rintro e w5 ⟨ge, me, de, c5, rfl, s5, h5, k5, n5, cr5⟩
      have O5 := Lib.hid (HC.out.old.step s5 (by omega))
      have B5 := Lib.hid (HC.out.bx.path (J := Only 4) (.step rfl .refl s5) (fun i hi => by have : i = 4 := hi; omega))
      have HLN := Lib.hid (And.intro HC.out.len1 HC.out.len2)
      have HSH : Hid (Shown (vw de) base1 ls1 ∨ Shown (vw de) base2 ls2) := Lib.hid (HC.out.shown _ cr5)
      obtain ⟨v5, hv5⟩ := h5
      have HV5 := Lib.hid hv5
      have K5 := Lib.hid (And.intro k5 n5)
      clear s5 k5 n5 cr5 hv5 HC HCR
      go_wp2_with fail
      refine (cut_any 4 ge me v5 de again w5 c5 HV5.out).mono ?_
      rintro e w6 ⟨rfl, s6, h6⟩
      have O6 := Lib.hid (O5.out.step s6 (by omega))
      have B6 := Lib.hid (B5.out.path (J := Only 4) (.step rfl .refl s6) (fun i hi => by have : i = 4 := hi; omega))
      have D6 : Hid (DiskAt w6 c5 4 ge me (cutK de again)) := Lib.hid ⟨_, h6⟩
      have G6 := Lib.hid (cut_gone (k := again) K5.out.1 K5.out.2 HAG.out.2)
      have hn6 : Hid (8 ≤ (cutK de again).n ∧ (cutK de again).cache.length ≤ 1000000) := Lib.hid ⟨K5.out.1.dom.1, by show de.cache.length ≤ _; rw [K5.out.1.cache]; simp⟩
      clear s6 h6 O5 B5 HV5
      go_wp2_with fail
      refine (open_any 4 5 ge me (cutK de again) w6 c5 D6.out (by omega) (by omega) (by omega) hn6.out.1 hn6.out.2).mono ?_
      rintro e w7 ⟨gj7, j7, c7, rfl, p7, -, -⟩
      have O7 := Lib.hid (O6.out.path p7 (Only.nz (by omega)))
      have B7 := Lib.hid (B6.out.path p7 (fun i hi => by have : i = 5 := hi; omega))
      have D7 := Lib.hid (D6.out.path p7 (fun i hi => by have : i = 5 := hi; omega))
      clear p7 O6 B6 D6 hn6
      have hri := HRM.out.below O7.out.below
      have hzz := RI.old HRM.out O7.out
      have hcr := crash_gone 4 6 ge me 100000 1000 (cutK de again) Am cm ms w7 c7 D7.out (fun w' col' s => hri.step hzz s (by omega)) (by omega) (by omega) G6.out ⟨by omega, by omega⟩ (by omega) HWM.out
      rw [← XM.out] at hcr
      have HCR := Lib.hid hcr
      clear hri hzz hcr
      go_wp2_with fail
      refine HCR.out.mono ?_
      rintro e w8 ⟨gf, mf, df, c8, rfl, s8, h8, k8, n8, cr8⟩
      have O8 := Lib.hid (O7.out.step s8 (by omega))
      have B8 := Lib.hid (B7.out.path (J := Only 6) (.step rfl .refl s8) (fun i hi => by have : i = 6 := hi; omega))
      have D8 := Lib.hid h8
      have K8 := Lib.hid k8
      have N8 := Lib.hid n8
      obtain ⟨base, ls, half, num, endp, hor, hi, hend⟩ : ∃ (base : List UInt8) (ls : List (List UInt8)) (half num endp : Nat), ((base = base1 ∧ ls = ls1) ∨ (base = base2 ∧ ls = ls2)) ∧ Held df half num base ls endp ∧ num ≤ 1000 ∧ endp ≤ 20000 := by
        have e1 : vw df = vw de := crash_quiet cr8 K5.out.1.cache
        rcases HSH.out with ⟨half, num, endp, h1, h2, h3⟩ | ⟨half, num, endp, h1, h2, h3⟩
        · refine ⟨base1, ls1, half, num, endp, .inl ⟨rfl, rfl⟩, ?_, h2, h3⟩
          show HInv (vw df) (df.n / 2) _ _ _ _ _
          rw [e1, n8]
          exact h1
        · refine ⟨base2, ls2, half, num, endp, .inr ⟨rfl, rfl⟩, ?_, h2, h3⟩
          show HInv (vw df) (df.n / 2) _ _ _ _ _
          rw [e1, n8]
          exact h1
      have HOR := Lib.hid hor
      have HI := Lib.hid hi
      have HEND := Lib.hid hend
      clear s8 h8 k8 n8 cr8 hor hi hend O7 B7 D7 G6 HCR K5 HSH
      go_wp2_with fail
      refine (open_js 6 7 gf mf 100000 df half num base ls endp w8 c8 D8.out (by omega) (by omega) (by omega) K8.out HI.out).mono ?_
      rintro e w9 ⟨gk, jk, c9, rfl, p9, S9, q1, q2, q3, q4, q5⟩
      have O9 := Lib.hid (O8.out.path p9 (Only.nz (by omega)))
      have B9 := Lib.hid (B8.out.path p9 (fun i hi => by have : i = 7 := hi; omega))
      have J9 := Lib.hid S9
      have HJ9 : Hid (jk.number ≤ 1000 ∧ jk.base.b = base ∧ jk.recs.map (·.b) = ls ∧ jk.endp ≤ 20000) := Lib.hid ⟨by rw [q2]; exact HEND.out.1, q3, q4, by rw [q5]; exact HEND.out.2⟩
      clear p9 S9 q1 q2 q3 q4 q5 O8 B8 D8 K8 HI HEND
      go_upto_region 33 with fail
      go_cut [145] from 27 to 204 (fun s145 wx => s145 = .bool false ∧ Hid (Below w9.heap.size w9 wx))
      case first =>
        have hsh := shows_bk J9.out B9.out.bk1 (by have := HLN.out.1; omega)
        have HS1 := Lib.hid hsh
        have hsh2 := fun (X : World) (hX : Below w9.heap.size w9 X) => shows_bk (J9.out.grow hX (fun _ => 0)) (B9.out.grow hX).bk2 (by have := HLN.out.2; omega)
        have HS2 := Lib.hid hsh2
        have HB9 : Hid (∀ X, Below w9.heap.size w9 X → X.cell? ⟨g2, 0, none⟩ = some x2 ∧ X.cell? ⟨g2, 1, none⟩ = some y2) := Lib.hid (fun X hX => (B9.out.grow hX).cells.2)
        obtain ⟨⟨z0, z1⟩, -⟩ := B9.out.cells
        clear hsh hsh2
        by_cases hq : jk.base.b = base1 ∧ jk.recs.map (·.b) = ls1
        · rw [decide_eq_true hq] at HS1
          clear hq
          go_wp2_with fail
          refine HS1.out.mono ?_
          rintro e wx ⟨rfl, hbx⟩
          have HBX := Lib.hid hbx
          clear hbx
          go_wp2
          go_meet
          exact ⟨rfl, HBX⟩
        · have hq2 : jk.base.b = base2 ∧ jk.recs.map (·.b) = ls2 := by
            rw [HJ9.out.2.1, HJ9.out.2.2.1] at hq ⊢
            rcases HOR.out with ⟨h1, h2⟩ | h
            · exact absurd ⟨h1, h2⟩ hq
            · exact h
          rw [decide_eq_false hq] at HS1
          rw [decide_eq_true hq2] at HS2
          clear hq hq2
          go_wp2_with fail
          refine HS1.out.mono ?_
          rintro e wx ⟨rfl, hbx⟩
          have HBX := Lib.hid hbx
          have HS3 := Lib.hid (HS2.out wx hbx)
          obtain ⟨z2, z3⟩ := HB9.out wx hbx
          clear hbx z0 z1
          go_wp2_with fail
          refine HS3.out.mono ?_
          rintro e wy ⟨rfl, hby⟩
          have HBY := Lib.hid (bel_then HBX.out hby)
          clear hby
          go_wp2
          go_meet
          exact ⟨rfl, HBY⟩
      case rest =>
        obtain ⟨rfl, HBC⟩ := hcut
        have O10 := Lib.hid (O9.out.grow HBC.out (fun _ => 0))
        have J10 := Lib.hid (J9.out.grow HBC.out (fun _ => 0))
        generalize paint w9 c9 (fun _ => 0) = c10 at *
        obtain ⟨n1, hn1⟩ : ∃ m, m = base.length := ⟨_, rfl⟩
        obtain ⟨n2, hn2⟩ : ∃ m, m = ls.length := ⟨_, rfl⟩
        have HN1 := Lib.hid hn1
        have HN2 := Lib.hid hn2
        have hn2b : n2 ≤ 1000 := by
          have h1 := J10.out.inv.recs.grows.1
          have h2 := HJ9.out.2.2.2
          rw [HJ9.out.2.2.1, ← hn2] at h1
          have h3 : n2 ≤ 100 := by
            rw [hn2]
            rcases HOR.out with ⟨-, h⟩ | ⟨-, h⟩
            · rw [h]; exact HLN.out.1
            · rw [h]; exact HLN.out.2
          omega
        clear hn1 hn2 O9 J9 B9 HBC HOR HLN
        go_wp2_with fail
        refine (base_js J10.out).mono ?_
        rintro e w11 ⟨v11, rfl, ob11, hb11⟩
        rw [HJ9.out.2.1] at ob11
        have J11 := Lib.hid (J10.out.grow hb11 (fun _ => 0))
        have HOB := Lib.hid ob11
        have HB11 := Lib.hid hb11
        obtain ⟨A1, k1, e1, -, -⟩ := ob11.reads
        subst e1
        rw [← HN1.out]
        rw [← HN1.out] at HOB
        clear hb11 ob11
        go_wp2_with fail
        refine (records_js J11.out).mono ?_
        rintro e w12 ⟨v12, rs12, rfl, nl12, hb12⟩
        rw [HJ9.out.2.2.1] at nl12
        obtain ⟨A1', k1', A2, k2, e1, e2, bk12, rc12⟩ := bk_new c10 HOB.out HB11.out nl12 hb12
        rw [← HN1.out] at e1
        rw [← HN2.out] at e2
        cases e1
        subst e2
        have BK12 := Lib.hid bk12
        have RC12 := Lib.hid rc12
        have hb10 := bel_then HB11.out hb12
        have O12 := Lib.hid (O10.out.grow hb10 (fun _ => 0))
        have J12 := Lib.hid (J10.out.grow hb10 (fun _ => 0))
        generalize paint wc c10 (fun _ => 0) = c12 at *
        clear nl12 hb12 bk12 rc12 hb10 J11 HOB HB11 O10 J10
        obtain ⟨w13, hw13⟩ : ∃ X, X = (w12.alloc (.cells #[.slice none 0 0, .slice none 0 0] 39)).setRow w12.heap.size #[.slice A1 n1 k1, .slice A2 n2 k2] := ⟨_, rfl⟩
        obtain ⟨hb13, bb13⟩ := BB.made BK12.out RC12.out HN1.out.symm HN2.out.symm hw13
        have BB13 := Lib.hid bb13
        have O13 := Lib.hid (O12.out.grow hb13 (fun _ => 0))
        have J13 := Lib.hid (J12.out.grow hb13 (fun _ => 0))
        have HRO := Lib.hid (heap_alloc_new w12 (.cells #[.slice none 0 0, .slice none 0 0] 39))
        have HW13 := Lib.hid hw13
        generalize paint w12 c12 (fun _ => 0) = c13 at *
        clear hb13 bb13 hw13 O12 J12 BK12 RC12
        go_wp2_with (first | (refine wpList_store_row rfl 39 _ _ rfl w12.heap.size #[.slice A1 n1 k1, .slice A2 n2 k2] rfl rfl 39 _ HRO.out (by kernel_rfl) rfl (by simp [Value.oneCell']) ?_; rw [← HW13.out]; generalize w12.heap.size = gb at *; clear HRO HW13) | fail)
        refine (open_js 6 8 gf mf 100000 df jk.half jk.number jk.base.b (jk.recs.map (·.b)) jk.endp w13 c13 J13.out.disk (by omega) (by omega) (by omega) J13.out.calm J13.out.inv).mono ?_
        rintro e w14 ⟨gm, jm, c14, rfl, p14, S14, q1, q2, q3, q4, q5⟩
        rw [HJ9.out.2.1] at q3
        rw [HJ9.out.2.2.1] at q4
        have O14 := Lib.hid (O13.out.path p14 (Only.nz (by omega)))
        have B14 := Lib.hid (BB13.out.path p14 (Only.nz (by omega)))
        have J14 := Lib.hid S14
        have HJ14 : Hid (jm.number ≤ 1000 ∧ jm.base.b = base ∧ jm.recs.map (·.b) = ls ∧ jm.endp ≤ 20000) := Lib.hid ⟨by rw [q2]; exact HJ9.out.1, q3, q4, by rw [q5]; exact HJ9.out.2.2.2⟩
        clear p14 S14 q1 q2 q3 q4 q5 O13 BB13 J13 HJ9
        obtain ⟨z0, z1⟩ := B14.out.cells
        have hsh := shows_bk J14.out B14.out.bk (by rw [HN2.out] at hn2b; omega)
        rw [decide_eq_true (And.intro HJ14.out.2.1 HJ14.out.2.2.1)] at hsh
        have HSH := Lib.hid hsh
        clear hsh
        go_wp2_with fail
        refine HSH.out.mono ?_
        rintro e w15 ⟨rfl, hb15⟩
        have O15 := Lib.hid (O14.out.grow hb15 (fun _ => 0))
        have B15 := Lib.hid (B14.out.grow hb15)
        have J15 := Lib.hid (J14.out.grow hb15 (fun _ => 0))
        generalize paint w14 c14 (fun _ => 0) = c15 at *
        have hba := bel_alloc (Below.refl w15.heap.size w15) (.cells #[.int .u8 122] 5 (1, 2))
        have ra := RB.lit w15 5 (1, 2) [122] (by simp) _ rfl #[.int .u8 122] rfl
        have O16 := Lib.hid (O15.out.grow hba (fun _ => 0))
        have B16 := Lib.hid (B15.out.grow hba)
        have J16 := Lib.hid (J15.out.grow hba (fun _ => 0))
        have R16 := Lib.hid (RC.new (col := c15) 0 ra (fun ad e => by cases e; exact Nat.le_refl _))
        clear hb15 hba ra O14 B14 J14 O15 B15 J15 HSH z0 z1
        have kc := fun (w : World) (C : Array Value) (n c g : Nat) (hg : g = w.heap.size) => Joins.run_convert_bytes_const_at (P := Try.prog) w 22 5 C n c g hg Try.underlying22 Try.underlying5
        go_wp2_with fail
        clear kc
        refine (append_js 6 8 gf mf gm 100000 df jm (some ⟨w15.heap.size, 0, none⟩) 1 [122] _ _ J16.out (by omega) (by omega) (by omega) R16.out ⟨Nat.le_refl _, fun e => by cases e⟩ (by omega) (by have := HJ14.out.1; omega) (by simp)).mono ?_
        rintro e w17 ⟨x, d17, j17, c17, rfl, p17, S17, n17, hx⟩
        have hpl := placeN_le jm.endp
        have hje := HJ14.out.2.2.2
        have hdn := N8.out
        obtain ⟨rfl, -, q2, q3, q4, q5⟩ : x = 0 ∧ _ := by
          rcases hx with ⟨-, -, -, h4⟩ | hx
          · exfalso
            have h5 : (([122] : List UInt8).length : Int) = 1 := rfl
            rw [h5] at h4
            unfold roomN at h4
            omega
          · exact hx
        rw [HJ14.out.2.1] at q3
        rw [HJ14.out.2.2.1] at q5
        have O17 := Lib.hid (O16.out.path p17 (Two.nz (by omega) (by omega)))
        have B17 := Lib.hid (B16.out.path p17 (Two.nz (by omega) (by omega)))
        have J17 := Lib.hid S17
        have HJ17 : Hid (j17.base.b = base ∧ j17.recs.map (·.b) = ls ++ [[122]]) := Lib.hid ⟨q3, q5⟩
        clear p17 S17 n17 hx hpl hje hdn q2 q3 q4 q5 O16 B16 J16 R16 HJ14
        go_wp2_with fail
        refine (open_js 6 9 gf mf (100000 + 1000) d17 j17.half j17.number j17.base.b (j17.recs.map (·.b)) j17.endp w17 c17 J17.out.disk (by omega) (by omega) (by omega) J17.out.calm J17.out.inv).mono ?_
        rintro e w18 ⟨gn, jn, c18, rfl, p18, S18, q1, q2, q3, q4, q5⟩
        rw [HJ17.out.1] at q3
        rw [HJ17.out.2] at q4
        have O18 := Lib.hid (O17.out.path p18 (Only.nz (by omega)))
        have B18 := Lib.hid (B17.out.path p18 (Only.nz (by omega)))
        have J18 := Lib.hid S18
        have HJ18 : Hid (jn.base.b = base ∧ jn.recs.map (·.b) = ls ++ [[122]]) := Lib.hid ⟨q3, q4⟩
        clear p18 S18 q1 q2 q3 q4 q5 O17 B17 J17 HJ17
        go_upto_region 40 with fail
        obtain ⟨ST, hST⟩ : ∃ S : ByteArray, S = ⟨base.toArray⟩ := ⟨_, rfl⟩
        have HST : Hid ((⟨base.toArray⟩ : ByteArray) = ST) := Lib.hid hST.symm
        obtain ⟨n3, hn3⟩ : ∃ m, m = n2 + 1 := ⟨_, rfl⟩
        have HRL : Hid ((jn.recs.map (·.b)).length = n3) := Lib.hid (by rw [HJ18.out.2, List.length_append, ← HN2.out, hn3]; rfl)
        have HRN : Hid ((jn.recs.map (·.b)).length ≤ 9223372036854775807) := Lib.hid (by rw [HRL.out]; omega)
        have HBS : Hid (∀ X, Below w18.heap.size w18 X → Calls Try.prog 18 #[.pointer (some ⟨gn, 0, none⟩)] X (CloneP base X)) := Lib.hid (fun X hX => by
          have := base_js (J18.out.grow hX (fun _ => 0))
          rw [HJ18.out.1] at this
          exact this)
        have HRS : Hid (∀ X, Below w18.heap.size w18 X → Calls Try.prog 19 #[.pointer (some ⟨gn, 0, none⟩)] X fun e w' => ∃ v rs, e = .returned v ∧ NewL X w' v (jn.recs.map (·.b)) rs ∧ Below X.heap.size X w') := Lib.hid (fun X hX => records_js (J18.out.grow hX (fun _ => 0)))
        have HBC : Hid (∀ X, Below w18.heap.size w18 X → X.cell? ⟨gb, 0, none⟩ = some (.slice A1 n1 k1) ∧ X.cell? ⟨gb, 1, none⟩ = some (.slice A2 n2 k2)) := Lib.hid (fun X hX => (B18.out.grow hX).cells)
        have HCV : Hid (∀ X, Below w18.heap.size w18 X → (convert 22 9 (.slice A1 n1 k1)).run Try.prog X = .ok (.string ST) X) := Lib.hid (fun X hX => by
          have := conv_str (c := k1) HN1.out (B18.out.grow hX).rb.read
          rw [HST.out] at this
          exact this)
        have hw3 : IntKind.i64.wrap ((n2 : Int) + 1) = (n2 : Int) + 1 := by first | (go_num; done) | (simp [IntKind.wrap, IntKind.signed, IntKind.bits]; omega)
        have hc1 : (((n3 : Nat) : Int) == IntKind.i64.wrap ((n2 : Int) + 1)) = true := by rw [hw3]; simp; omega
        have hc2 : (((n3 : Nat) : Int) == (n2 : Int) + 1) = true := by simp; omega
        clear hw3
        have OB18 := Lib.hid O18.out.below
        obtain ⟨X0, hV⟩ : ∃ V, V = w18.drew := ⟨_, rfl⟩
        have hbV : Below w18.heap.size w18 X0 := by rw [hV]; exact bel_drew (Below.refl _ _)
        have HBX0 := Lib.hid hbV
        have z := HBC.out X0 hbV
        clear hbV hST hn3 J18 B18 O18 HJ18
        refine region_const (G := G4c) (S := fun X => X.cell? ⟨gb, 0, none⟩ = some (.slice A1 n1 k1) ∧ X.cell? ⟨gb, 1, none⟩ = some (.slice A2 n2 k2)) (n := 29) (by kernel_rfl) (by kernel_rfl) rfl (by rw [← hV]; exact z) (fun HG hS0 => ?_)
        have Gns := Gns4c
        rw [← hV]
        rw [← hV] at hS0
        clear hV z
        refine wpAnyH_take (i := 0) (v := ?_) (o_at HG 0 rfl) Gns (by kernel_rfl) (by kernel_rfl) (fun _ _ _ h => h) (Or.inl ⟨(by kernel_rfl), ?_⟩) (by first | trivial | assumption) ?_
        rotate_left
        · (intro w hSw; (try dsimp only at hSw); go_simp; try with_reducible rfl)
        try simp only [Act.put, List.getElem_toArray, List.getElem_cons_zero, List.getElem_cons_succ, List.setIfInBounds_toArray, List.set_cons_zero, List.set_cons_succ]
        refine wpAnyH_take (i := 1) (v := ?_) (o_at HG 1 rfl) Gns (by kernel_rfl) (by kernel_rfl) (fun _ _ _ h => h) (Or.inl ⟨(by kernel_rfl), ?_⟩) (by first | trivial | assumption) ?_
        rotate_left
        · (intro w hSw; (try dsimp only at hSw); go_simp; try with_reducible rfl)
        try simp only [Act.put, List.getElem_toArray, List.getElem_cons_zero, List.getElem_cons_succ, List.setIfInBounds_toArray, List.set_cons_zero, List.set_cons_succ]
        refine wpAnyH_take (i := 2) (v := ?_) (o_at HG 2 rfl) Gns (by kernel_rfl) (by kernel_rfl) (fun _ _ _ h => h) (Or.inl ⟨(by kernel_rfl), ?_⟩) (by first | trivial | assumption) ?_
        rotate_left
        · (intro w hSw; (try dsimp only at hSw); go_simp; try with_reducible rfl)
        try simp only [Act.put, List.getElem_toArray, List.getElem_cons_zero, List.getElem_cons_succ, List.setIfInBounds_toArray, List.set_cons_zero, List.set_cons_succ]
        refine wpAnyH_take (i := 3) (v := ?_) (o_at HG 3 rfl) Gns (by kernel_rfl) (by kernel_rfl) (fun _ _ _ h => h) (Or.inl ⟨(by kernel_rfl), ?_⟩) (by first | trivial | assumption) ?_
        rotate_left
        · (intro w hSw; (try dsimp only at hSw); go_simp; try with_reducible rfl)
        try simp only [Act.put, List.getElem_toArray, List.getElem_cons_zero, List.getElem_cons_succ, List.setIfInBounds_toArray, List.set_cons_zero, List.set_cons_succ]
        refine wpAnyH_take (i := 4) (v := ?_) (o_at HG 4 rfl) Gns (by kernel_rfl) (by kernel_rfl) (fun _ _ _ h => h) (Or.inl ⟨(by kernel_rfl), ?_⟩) (by first | trivial | assumption) ?_
        rotate_left
        · (intro w hSw; (try dsimp only at hSw); go_simp; try with_reducible rfl)
        try simp only [Act.put, List.getElem_toArray, List.getElem_cons_zero, List.getElem_cons_succ, List.setIfInBounds_toArray, List.set_cons_zero, List.set_cons_succ]
        refine wpAnyH_take (i := 5) (v := ?_) (o_at HG 5 rfl) Gns (by kernel_rfl) (by kernel_rfl) (fun _ _ _ h => h) (Or.inl ⟨(by kernel_rfl), ?_⟩) (by first | trivial | assumption) ?_
        rotate_left
        · (intro w hSw; (try dsimp only at hSw); go_simp; try with_reducible rfl)
        try simp only [Act.put, List.getElem_toArray, List.getElem_cons_zero, List.getElem_cons_succ, List.setIfInBounds_toArray, List.set_cons_zero, List.set_cons_succ]
        refine wpAnyH_take (i := 6) (v := ?_) (o_at HG 6 rfl) Gns (by kernel_rfl) (by kernel_rfl) (fun _ _ _ h => h) (Or.inl ⟨(by kernel_rfl), ?_⟩) (by first | trivial | assumption) ?_
        rotate_left
        · (intro w hSw; (try dsimp only at hSw); go_simp; try with_reducible rfl)
        try simp only [Act.put, List.getElem_toArray, List.getElem_cons_zero, List.getElem_cons_succ, List.setIfInBounds_toArray, List.set_cons_zero, List.set_cons_succ]
        refine wpAnyH_take (i := 7) (v := ?_) (o_at HG 7 rfl) Gns (by kernel_rfl) (by kernel_rfl) (fun _ _ _ h => h) (Or.inl ⟨(by kernel_rfl), ?_⟩) (by first | trivial | assumption) ?_
        rotate_left
        · (intro w hSw; (try dsimp only at hSw); go_simp; try with_reducible rfl)
        try simp only [Act.put, List.getElem_toArray, List.getElem_cons_zero, List.getElem_cons_succ, List.setIfInBounds_toArray, List.set_cons_zero, List.set_cons_succ]
        refine wpAnyH_take (i := 10) (v := ?_) (o_at HG 10 rfl) Gns (by kernel_rfl) (by kernel_rfl) (fun _ _ _ h => h) (Or.inl ⟨(by kernel_rfl), ?_⟩) (by first | trivial | assumption) ?_
        rotate_left
        · (intro w hSw; (try dsimp only at hSw); go_simp; try with_reducible rfl)
        try simp only [Act.put, List.getElem_toArray, List.getElem_cons_zero, List.getElem_cons_succ, List.setIfInBounds_toArray, List.set_cons_zero, List.set_cons_succ]
        refine wpAnyH_take (i := 11) (v := ?_) (o_at HG 11 rfl) Gns (by kernel_rfl) (by kernel_rfl) (fun _ _ _ h => h) (Or.inl ⟨(by kernel_rfl), ?_⟩) (by first | trivial | assumption) ?_
        rotate_left
        · (intro w hSw; (try dsimp only at hSw); go_simp; try with_reducible rfl)
        try simp only [Act.put, List.getElem_toArray, List.getElem_cons_zero, List.getElem_cons_succ, List.setIfInBounds_toArray, List.set_cons_zero, List.set_cons_succ]
        refine wpAnyH_take (i := 12) (v := ?_) (o_at HG 12 rfl) Gns (by kernel_rfl) (by kernel_rfl) (fun _ _ _ h => h) (Or.inl ⟨(by kernel_rfl), ?_⟩) (by first | trivial | assumption) ?_
        rotate_left
        · (intro w hSw; (try dsimp only at hSw); go_simp; try with_reducible rfl)
        try simp only [Act.put, List.getElem_toArray, List.getElem_cons_zero, List.getElem_cons_succ, List.setIfInBounds_toArray, List.set_cons_zero, List.set_cons_succ]
        refine wpAnyH_take (i := 13) (v := ?_) (o_at HG 13 rfl) Gns (by kernel_rfl) (by kernel_rfl) (fun _ _ _ h => h) (Or.inl ⟨(by kernel_rfl), ?_⟩) (by first | trivial | assumption) ?_
        rotate_left
        · (intro w hSw; (try dsimp only at hSw); go_simp; try with_reducible rfl)
        try simp only [Act.put, List.getElem_toArray, List.getElem_cons_zero, List.getElem_cons_succ, List.setIfInBounds_toArray, List.set_cons_zero, List.set_cons_succ]
        refine wpAnyH_ready (rs := [8]) (by kernel_rfl) (by simp) ?_
        refine AllReadyH.cons (o_at HG 8 rfl) ?_ (AllReadyH.nil)
        · intro K' hK
          rw [if_pos (by kernel_rfl)]
          go_simp
          (with_reducible refine (HRS.out X0 HBX0.out).mono ?_)
          rintro e X1 ⟨v3, rs3, rfl, nl3, hb3⟩
          obtain ⟨A3, k3, rfl, -, -⟩ := nl3.reads HRN.out
          rw [HRL.out]
          have HBX1 := Lib.hid (bel_then HBX0.out hb3)
          clear nl3 hb3
          refine hK.out _ _ (HBC.out X1 HBX1.out) (fun _ => ?_)
          try simp only [Act.put, List.getElem_toArray, List.getElem_cons_zero, List.getElem_cons_succ, List.setIfInBounds_toArray, List.set_cons_zero, List.set_cons_succ]
          refine wpAnyH_take (i := 9) (v := ?_) (o_at HG 9 rfl) Gns (by kernel_rfl) (by kernel_rfl) (fun _ _ _ h => h) (Or.inl ⟨(by kernel_rfl), ?_⟩) (by first | trivial | assumption) ?_
          rotate_left
          · (intro w hSw; (try dsimp only at hSw); go_simp; try with_reducible rfl)
          try simp only [Act.put, List.getElem_toArray, List.getElem_cons_zero, List.getElem_cons_succ, List.setIfInBounds_toArray, List.set_cons_zero, List.set_cons_succ]
          refine wpAnyH_take (i := 14) (v := ?_) (o_at HG 14 rfl) Gns (by kernel_rfl) (by kernel_rfl) (fun _ _ _ h => h) (Or.inl ⟨(by kernel_rfl), ?_⟩) (by first | trivial | assumption) ?_
          rotate_left
          · (intro w hSw; (try dsimp only at hSw); go_simp; try with_reducible rfl)
          try simp only [Act.put, List.getElem_toArray, List.getElem_cons_zero, List.getElem_cons_succ, List.setIfInBounds_toArray, List.set_cons_zero, List.set_cons_succ]
          refine wpAnyH_take (i := 15) (v := ?_) (o_at HG 15 rfl) Gns (by kernel_rfl) (by kernel_rfl) (fun _ _ _ h => h) (Or.inl ⟨(by kernel_rfl), ?_⟩) (by first | trivial | assumption) ?_
          rotate_left
          · (intro w hSw; (try dsimp only at hSw); go_simp; try with_reducible rfl)
          try simp only [Act.put, List.getElem_toArray, List.getElem_cons_zero, List.getElem_cons_succ, List.setIfInBounds_toArray, List.set_cons_zero, List.set_cons_succ]
          refine wpAnyH_take (i := 16) (v := ?_) (o_at HG 16 rfl) Gns (by kernel_rfl) (by kernel_rfl) (fun _ _ _ h => h) (Or.inl ⟨(by kernel_rfl), ?_⟩) (by first | trivial | assumption) ?_
          rotate_left
          · (intro w hSw; (try dsimp only at hSw); go_simp; try with_reducible rfl)
          try simp only [Act.put, List.getElem_toArray, List.getElem_cons_zero, List.getElem_cons_succ, List.setIfInBounds_toArray, List.set_cons_zero, List.set_cons_succ]
          refine wpAnyH_take (i := 17) (v := ?_) (o_at HG 17 rfl) Gns (by kernel_rfl) (by kernel_rfl) (fun _ _ _ h => h) (Or.inl ⟨(by kernel_rfl), ?_⟩) (by first | trivial | assumption) ?_
          rotate_left
          · (intro w hSw; (try dsimp only at hSw); go_simp; try with_reducible rfl)
          try simp only [Act.put, List.getElem_toArray, List.getElem_cons_zero, List.getElem_cons_succ, List.setIfInBounds_toArray, List.set_cons_zero, List.set_cons_succ]
          refine wpAnyH_take (i := 20) (v := ?_) (o_at HG 20 rfl) Gns (by kernel_rfl) (by kernel_rfl) (fun _ _ _ h => h) (Or.inl ⟨(by kernel_rfl), ?_⟩) (by first | trivial | assumption) ?_
          rotate_left
          · (intro w hSw; (try dsimp only at hSw); go_simp; try with_reducible rfl)
          try simp only [Act.put, List.getElem_toArray, List.getElem_cons_zero, List.getElem_cons_succ, List.setIfInBounds_toArray, List.set_cons_zero, List.set_cons_succ]
          refine wpAnyH_take (i := 21) (v := ?_) (o_at HG 21 rfl) Gns (by kernel_rfl) (by kernel_rfl) (fun _ _ _ h => h) (Or.inl ⟨(by kernel_rfl), ?_⟩) (by first | trivial | assumption) ?_
          rotate_left
          · (intro w hSw; (try dsimp only at hSw); go_simp; try with_reducible rfl)
          try simp only [Act.put, List.getElem_toArray, List.getElem_cons_zero, List.getElem_cons_succ, List.setIfInBounds_toArray, List.set_cons_zero, List.set_cons_succ]
          refine wpAnyH_ready (rs := [18, 22]) (by kernel_rfl) (by simp) ?_
          refine AllReadyH.cons (o_at HG 18 rfl) ?_ (AllReadyH.cons (o_at HG 22 rfl) ?_ (AllReadyH.nil))
          · intro K' hK
            rw [if_pos (by kernel_rfl)]
            go_simp
            (with_reducible refine (HBS.out X1 HBX1.out).mono ?_)
            rintro e X2 ⟨v4, rfl, ob4, hb4⟩
            obtain ⟨A4, k4, e4, sv4, rb4⟩ := ob4.reads
            rw [← HN1.out] at e4
            subst e4
            have HBX2 := Lib.hid (bel_then HBX1.out hb4)
            have HQ : Hid (∀ X, Below X2.heap.size X2 X → (convert 22 9 (.slice A4 n1 k4)).run Try.prog X = .ok (.string ST) X) := Lib.hid (fun X hX => by have := conv_str (c := k4) HN1.out (rb4.below hX); rw [HST.out] at this; exact this)
            have HQB := Lib.hid (Below.refl X2.heap.size X2)
            clear ob4 sv4 rb4 hb4
            refine hK.out _ _ (HBC.out X2 HBX2.out) (fun _ => ?_)
            try simp only [Act.put, List.getElem_toArray, List.getElem_cons_zero, List.getElem_cons_succ, List.setIfInBounds_toArray, List.set_cons_zero, List.set_cons_succ]
            refine wpAnyH_ready (rs := [19, 22]) (by kernel_rfl) (by simp) ?_
            refine AllReadyH.cons (o_at HG 19 rfl) ?_ (AllReadyH.cons (o_at HG 22 rfl) ?_ (AllReadyH.nil))
            · intro K' hK
              rw [if_pos (by kernel_rfl)]
              have q19 := HQ.out X2 HQB.out
              go_simp
              clear q19
              refine hK.out _ _ (HBC.out X2 HBX2.out) (fun _ => ?_)
              try simp only [Act.put, List.getElem_toArray, List.getElem_cons_zero, List.getElem_cons_succ, List.setIfInBounds_toArray, List.set_cons_zero, List.set_cons_succ]
              refine wpAnyH_ready (rs := [22]) (by kernel_rfl) (by simp) ?_
              refine AllReadyH.cons (o_at HG 22 rfl) ?_ (AllReadyH.nil)
              · intro K' hK
                rw [if_pos (by kernel_rfl)]
                have q22 := HCV.out X2 HBX2.out
                go_simp
                clear q22
                refine hK.out _ _ (HBC.out X2 HBX2.out) (fun _ => ?_)
                try simp only [Act.put, List.getElem_toArray, List.getElem_cons_zero, List.getElem_cons_succ, List.setIfInBounds_toArray, List.set_cons_zero, List.set_cons_succ]
                refine wpAnyH_take (i := 23) (v := ?_) (o_at HG 23 rfl) Gns (by kernel_rfl) (by kernel_rfl) (fun _ _ _ h => h) (Or.inl ⟨(by kernel_rfl), ?_⟩) (by first | trivial | assumption) ?_
                rotate_left
                · (intro w hSw; (try dsimp only at hSw); go_simp; try with_reducible rfl)
                try simp only [Act.put, List.getElem_toArray, List.getElem_cons_zero, List.getElem_cons_succ, List.setIfInBounds_toArray, List.set_cons_zero, List.set_cons_succ]
                refine wpAnyH_take (i := 24) (v := ?_) (o_at HG 24 rfl) Gns (by kernel_rfl) (by kernel_rfl) (fun _ _ _ h => h) (Or.inl ⟨(by kernel_rfl), ?_⟩) (by first | trivial | assumption) ?_
                rotate_left
                · (intro w hSw; (try dsimp only at hSw); go_simp; try with_reducible rfl)
                try simp only [Act.put, List.getElem_toArray, List.getElem_cons_zero, List.getElem_cons_succ, List.setIfInBounds_toArray, List.set_cons_zero, List.set_cons_succ]
                refine wpAnyH_take (i := 25) (v := ?_) (o_at HG 25 rfl) Gns (by kernel_rfl) (by kernel_rfl) (fun _ _ _ h => h) (Or.inl ⟨(by kernel_rfl), ?_⟩) (by first | trivial | assumption) ?_
                rotate_left
                · (intro w hSw; (try dsimp only at hSw); go_simp; try with_reducible rfl)
                try simp only [Act.put, List.getElem_toArray, List.getElem_cons_zero, List.getElem_cons_succ, List.setIfInBounds_toArray, List.set_cons_zero, List.set_cons_succ]
                refine wpAnyH_ready (rs := [26]) (by kernel_rfl) (by simp) ?_
                refine AllReadyH.cons (o_at HG 26 rfl) ?_ (AllReadyH.nil)
                · intro K' hK
                  rw [if_pos (by kernel_rfl)]
                  go_simp
                  (with_reducible refine (jawake_any X2).mono ?_)
                  rintro e X3 ⟨rfl, hb5⟩
                  have HBX3 := Lib.hid (bel_then HBX2.out hb5)
                  clear hb5
                  refine hK.out _ _ (HBC.out X3 HBX3.out) (fun _ => ?_)
                  try simp only [Act.put, List.getElem_toArray, List.getElem_cons_zero, List.getElem_cons_succ, List.setIfInBounds_toArray, List.set_cons_zero, List.set_cons_succ]
                  refine wpAnyH_take (i := 27) (v := ?_) (o_at HG 27 rfl) Gns (by kernel_rfl) (by kernel_rfl) (fun _ _ _ h => h) (Or.inl ⟨(by kernel_rfl), ?_⟩) (by first | trivial | assumption) ?_
                  rotate_left
                  · (intro w hSw; (try dsimp only at hSw); go_simp; try with_reducible rfl)
                  try simp only [Act.put, List.getElem_toArray, List.getElem_cons_zero, List.getElem_cons_succ, List.setIfInBounds_toArray, List.set_cons_zero, List.set_cons_succ]
                  refine wpAnyH_take (i := 28) (v := ?_) (o_at HG 28 rfl) Gns (by kernel_rfl) (by kernel_rfl) (fun _ _ _ h => h) (Or.inl ⟨(by kernel_rfl), ?_⟩) (by first | trivial | assumption) ?_
                  rotate_left
                  · (intro w hSw; (try dsimp only at hSw); go_simp; try with_reducible rfl)
                  try simp only [Act.put, List.getElem_toArray, List.getElem_cons_zero, List.getElem_cons_succ, List.setIfInBounds_toArray, List.set_cons_zero, List.set_cons_succ]
                  refine wpAnyH_done (by kernel_rfl) ?_ _
                  apply_assumption
                  go_wp2
                  go_ret
                  exact ⟨rfl, OB18.out.trans (HBX3.out.mono OB18.out.size)⟩
            · intro K' hK
              rw [if_pos (by kernel_rfl)]
              have q22 := HCV.out X2 HBX2.out
              go_simp
              clear q22
              refine hK.out _ _ (HBC.out X2 HBX2.out) (fun _ => ?_)
              try simp only [Act.put, List.getElem_toArray, List.getElem_cons_zero, List.getElem_cons_succ, List.setIfInBounds_toArray, List.set_cons_zero, List.set_cons_succ]
              refine wpAnyH_ready (rs := [19]) (by kernel_rfl) (by simp) ?_
              refine AllReadyH.cons (o_at HG 19 rfl) ?_ (AllReadyH.nil)
              · intro K' hK
                rw [if_pos (by kernel_rfl)]
                have q19 := HQ.out X2 HQB.out
                go_simp
                clear q19
                refine hK.out _ _ (HBC.out X2 HBX2.out) (fun _ => ?_)
                try simp only [Act.put, List.getElem_toArray, List.getElem_cons_zero, List.getElem_cons_succ, List.setIfInBounds_toArray, List.set_cons_zero, List.set_cons_succ]
                refine wpAnyH_take (i := 23) (v := ?_) (o_at HG 23 rfl) Gns (by kernel_rfl) (by kernel_rfl) (fun _ _ _ h => h) (Or.inl ⟨(by kernel_rfl), ?_⟩) (by first | trivial | assumption) ?_
                rotate_left
                · (intro w hSw; (try dsimp only at hSw); go_simp; try with_reducible rfl)
                try simp only [Act.put, List.getElem_toArray, List.getElem_cons_zero, List.getElem_cons_succ, List.setIfInBounds_toArray, List.set_cons_zero, List.set_cons_succ]
                refine wpAnyH_take (i := 24) (v := ?_) (o_at HG 24 rfl) Gns (by kernel_rfl) (by kernel_rfl) (fun _ _ _ h => h) (Or.inl ⟨(by kernel_rfl), ?_⟩) (by first | trivial | assumption) ?_
                rotate_left
                · (intro w hSw; (try dsimp only at hSw); go_simp; try with_reducible rfl)
                try simp only [Act.put, List.getElem_toArray, List.getElem_cons_zero, List.getElem_cons_succ, List.setIfInBounds_toArray, List.set_cons_zero, List.set_cons_succ]
                refine wpAnyH_take (i := 25) (v := ?_) (o_at HG 25 rfl) Gns (by kernel_rfl) (by kernel_rfl) (fun _ _ _ h => h) (Or.inl ⟨(by kernel_rfl), ?_⟩) (by first | trivial | assumption) ?_
                rotate_left
                · (intro w hSw; (try dsimp only at hSw); go_simp; try with_reducible rfl)
                try simp only [Act.put, List.getElem_toArray, List.getElem_cons_zero, List.getElem_cons_succ, List.setIfInBounds_toArray, List.set_cons_zero, List.set_cons_succ]
                refine wpAnyH_ready (rs := [26]) (by kernel_rfl) (by simp) ?_
                refine AllReadyH.cons (o_at HG 26 rfl) ?_ (AllReadyH.nil)
                · intro K' hK
                  rw [if_pos (by kernel_rfl)]
                  go_simp
                  (with_reducible refine (jawake_any X2).mono ?_)
                  rintro e X3 ⟨rfl, hb5⟩
                  have HBX3 := Lib.hid (bel_then HBX2.out hb5)
                  clear hb5
                  refine hK.out _ _ (HBC.out X3 HBX3.out) (fun _ => ?_)
                  try simp only [Act.put, List.getElem_toArray, List.getElem_cons_zero, List.getElem_cons_succ, List.setIfInBounds_toArray, List.set_cons_zero, List.set_cons_succ]
                  refine wpAnyH_take (i := 27) (v := ?_) (o_at HG 27 rfl) Gns (by kernel_rfl) (by kernel_rfl) (fun _ _ _ h => h) (Or.inl ⟨(by kernel_rfl), ?_⟩) (by first | trivial | assumption) ?_
                  rotate_left
                  · (intro w hSw; (try dsimp only at hSw); go_simp; try with_reducible rfl)
                  try simp only [Act.put, List.getElem_toArray, List.getElem_cons_zero, List.getElem_cons_succ, List.setIfInBounds_toArray, List.set_cons_zero, List.set_cons_succ]
                  refine wpAnyH_take (i := 28) (v := ?_) (o_at HG 28 rfl) Gns (by kernel_rfl) (by kernel_rfl) (fun _ _ _ h => h) (Or.inl ⟨(by kernel_rfl), ?_⟩) (by first | trivial | assumption) ?_
                  rotate_left
                  · (intro w hSw; (try dsimp only at hSw); go_simp; try with_reducible rfl)
                  try simp only [Act.put, List.getElem_toArray, List.getElem_cons_zero, List.getElem_cons_succ, List.setIfInBounds_toArray, List.set_cons_zero, List.set_cons_succ]
                  refine wpAnyH_done (by kernel_rfl) ?_ _
                  apply_assumption
                  go_wp2
                  go_ret
                  exact ⟨rfl, OB18.out.trans (HBX3.out.mono OB18.out.size)⟩
          · intro K' hK
            rw [if_pos (by kernel_rfl)]
            have q22 := HCV.out X1 HBX1.out
            go_simp
            clear q22
            refine hK.out _ _ (HBC.out X1 HBX1.out) (fun _ => ?_)
            try simp only [Act.put, List.getElem_toArray, List.getElem_cons_zero, List.getElem_cons_succ, List.setIfInBounds_toArray, List.set_cons_zero, List.set_cons_succ]
            refine wpAnyH_ready (rs := [18]) (by kernel_rfl) (by simp) ?_
            refine AllReadyH.cons (o_at HG 18 rfl) ?_ (AllReadyH.nil)
            · intro K' hK
              rw [if_pos (by kernel_rfl)]
              go_simp
              (with_reducible refine (HBS.out X1 HBX1.out).mono ?_)
              rintro e X2 ⟨v4, rfl, ob4, hb4⟩
              obtain ⟨A4, k4, e4, sv4, rb4⟩ := ob4.reads
              rw [← HN1.out] at e4
              subst e4
              have HBX2 := Lib.hid (bel_then HBX1.out hb4)
              have HQ : Hid (∀ X, Below X2.heap.size X2 X → (convert 22 9 (.slice A4 n1 k4)).run Try.prog X = .ok (.string ST) X) := Lib.hid (fun X hX => by have := conv_str (c := k4) HN1.out (rb4.below hX); rw [HST.out] at this; exact this)
              have HQB := Lib.hid (Below.refl X2.heap.size X2)
              clear ob4 sv4 rb4 hb4
              refine hK.out _ _ (HBC.out X2 HBX2.out) (fun _ => ?_)
              try simp only [Act.put, List.getElem_toArray, List.getElem_cons_zero, List.getElem_cons_succ, List.setIfInBounds_toArray, List.set_cons_zero, List.set_cons_succ]
              refine wpAnyH_ready (rs := [19]) (by kernel_rfl) (by simp) ?_
              refine AllReadyH.cons (o_at HG 19 rfl) ?_ (AllReadyH.nil)
              · intro K' hK
                rw [if_pos (by kernel_rfl)]
                have q19 := HQ.out X2 HQB.out
                go_simp
                clear q19
                refine hK.out _ _ (HBC.out X2 HBX2.out) (fun _ => ?_)
                try simp only [Act.put, List.getElem_toArray, List.getElem_cons_zero, List.getElem_cons_succ, List.setIfInBounds_toArray, List.set_cons_zero, List.set_cons_succ]
                refine wpAnyH_take (i := 23) (v := ?_) (o_at HG 23 rfl) Gns (by kernel_rfl) (by kernel_rfl) (fun _ _ _ h => h) (Or.inl ⟨(by kernel_rfl), ?_⟩) (by first | trivial | assumption) ?_
                rotate_left
                · (intro w hSw; (try dsimp only at hSw); go_simp; try with_reducible rfl)
                try simp only [Act.put, List.getElem_toArray, List.getElem_cons_zero, List.getElem_cons_succ, List.setIfInBounds_toArray, List.set_cons_zero, List.set_cons_succ]
                refine wpAnyH_take (i := 24) (v := ?_) (o_at HG 24 rfl) Gns (by kernel_rfl) (by kernel_rfl) (fun _ _ _ h => h) (Or.inl ⟨(by kernel_rfl), ?_⟩) (by first | trivial | assumption) ?_
                rotate_left
                · (intro w hSw; (try dsimp only at hSw); go_simp; try with_reducible rfl)
                try simp only [Act.put, List.getElem_toArray, List.getElem_cons_zero, List.getElem_cons_succ, List.setIfInBounds_toArray, List.set_cons_zero, List.set_cons_succ]
                refine wpAnyH_take (i := 25) (v := ?_) (o_at HG 25 rfl) Gns (by kernel_rfl) (by kernel_rfl) (fun _ _ _ h => h) (Or.inl ⟨(by kernel_rfl), ?_⟩) (by first | trivial | assumption) ?_
                rotate_left
                · (intro w hSw; (try dsimp only at hSw); go_simp; try with_reducible rfl)
                try simp only [Act.put, List.getElem_toArray, List.getElem_cons_zero, List.getElem_cons_succ, List.setIfInBounds_toArray, List.set_cons_zero, List.set_cons_succ]
                refine wpAnyH_ready (rs := [26]) (by kernel_rfl) (by simp) ?_
                refine AllReadyH.cons (o_at HG 26 rfl) ?_ (AllReadyH.nil)
                · intro K' hK
                  rw [if_pos (by kernel_rfl)]
                  go_simp
                  (with_reducible refine (jawake_any X2).mono ?_)
                  rintro e X3 ⟨rfl, hb5⟩
                  have HBX3 := Lib.hid (bel_then HBX2.out hb5)
                  clear hb5
                  refine hK.out _ _ (HBC.out X3 HBX3.out) (fun _ => ?_)
                  try simp only [Act.put, List.getElem_toArray, List.getElem_cons_zero, List.getElem_cons_succ, List.setIfInBounds_toArray, List.set_cons_zero, List.set_cons_succ]
                  refine wpAnyH_take (i := 27) (v := ?_) (o_at HG 27 rfl) Gns (by kernel_rfl) (by kernel_rfl) (fun _ _ _ h => h) (Or.inl ⟨(by kernel_rfl), ?_⟩) (by first | trivial | assumption) ?_
                  rotate_left
                  · (intro w hSw; (try dsimp only at hSw); go_simp; try with_reducible rfl)
                  try simp only [Act.put, List.getElem_toArray, List.getElem_cons_zero, List.getElem_cons_succ, List.setIfInBounds_toArray, List.set_cons_zero, List.set_cons_succ]
                  refine wpAnyH_take (i := 28) (v := ?_) (o_at HG 28 rfl) Gns (by kernel_rfl) (by kernel_rfl) (fun _ _ _ h => h) (Or.inl ⟨(by kernel_rfl), ?_⟩) (by first | trivial | assumption) ?_
                  rotate_left
                  · (intro w hSw; (try dsimp only at hSw); go_simp; try with_reducible rfl)
                  try simp only [Act.put, List.getElem_toArray, List.getElem_cons_zero, List.getElem_cons_succ, List.setIfInBounds_toArray, List.set_cons_zero, List.set_cons_succ]
                  refine wpAnyH_done (by kernel_rfl) ?_ _
                  apply_assumption
                  go_wp2
                  go_ret
                  exact ⟨rfl, OB18.out.trans (HBX3.out.mono OB18.out.size)⟩
set_option maxRecDepth 100000 in
set_option maxHeartbeats 4000000 in
theorem jcrash_main (A : Option Addr) (c : Nat) (ss : List S3) (cut : Int) (Ap : Option Addr) (cp : Nat) (ps : List Int) (again : Int) (Am : Option Addr) (cm : Nat) (ms : List Int) (w : World) (hra : RT w A ss) (hwa : ∀ s ∈ ss, s.wf) (hrp : RI w Ap ps) (hwp : ∀ x ∈ ps, -9223372036854775808 ≤ x ∧ x ≤ 9223372036854775807) (hrm : RI w Am ms) (hwm : ∀ x ∈ ms, -9223372036854775808 ≤ x ∧ x ≤ 9223372036854775807) (hcw : -9223372036854775808 ≤ cut ∧ cut ≤ 9223372036854775807) (hgw : -9223372036854775808 ≤ again ∧ again ≤ 9223372036854775807) :
    Calls Try.prog 4 #[.slice A ss.length c, .int .i64 cut, .slice Ap ps.length cp, .int .i64 again, .slice Am ms.length cm] w fun e w' => e = .returned (.bool true) ∧ Below w.heap.size w w' := by
  by_cases h : ss.length ≤ 30 ∧ 0 ≤ cut ∧ 0 ≤ again ∧ ps.length ≤ 5 ∧ ms.length ≤ 5
  · exact jcrash_walk A c ss cut Ap cp ps again Am cm ms w hra hwa hrp hwp hrm hwm ⟨h.2.1, hcw.2⟩ ⟨h.2.2.1, hgw.2⟩ h.1 h.2.2.2.1 h.2.2.2.2
  · obtain ⟨l, hl⟩ : ∃ m, m = ss.length := ⟨_, rfl⟩
    obtain ⟨lp, hlp⟩ : ∃ m, m = ps.length := ⟨_, rfl⟩
    obtain ⟨lm, hlm⟩ : ∃ m, m = ms.length := ⟨_, rfl⟩
    rw [← hl, ← hlp, ← hlm] at h ⊢
    clear hl hlp hlm hra hwa hrp hwp hrm hwm hcw hgw
    have hz : (decide (30 < (l : Int)) || (decide (cut < 0) || (decide (again < 0) || (decide (5 < (lp : Int)) || (decide (5 < (lm : Int))))))) = true := by
      simp only [Bool.or_eq_true, decide_eq_true_eq]
      omega
    clear h 
    cases h1 : decide (30 < (l : Int)) with
    | true =>
      clear hz
      go_enter Try.func4, Try.ntmps4
      go_wp2_with fail
      refine (jawake_any w).mono ?_
      rintro e w1 ⟨rfl, hb⟩
      have HB := Lib.hid hb
      clear hb
      go_wp2
      go_ret
      exact ⟨rfl, HB.out⟩
    | false =>
      rw [h1, Bool.false_or] at hz
      cases h2 : decide (cut < 0) with
      | true =>
        clear hz
        go_enter Try.func4, Try.ntmps4
        go_wp2_with fail
        refine (jawake_any w).mono ?_
        rintro e w1 ⟨rfl, hb⟩
        have HB := Lib.hid hb
        clear hb
        go_wp2
        go_ret
        exact ⟨rfl, HB.out⟩
      | false =>
        rw [h2, Bool.false_or] at hz
        cases h3 : decide (again < 0) with
        | true =>
          clear hz
          go_enter Try.func4, Try.ntmps4
          go_wp2_with fail
          refine (jawake_any w).mono ?_
          rintro e w1 ⟨rfl, hb⟩
          have HB := Lib.hid hb
          clear hb
          go_wp2
          go_ret
          exact ⟨rfl, HB.out⟩
        | false =>
          rw [h3, Bool.false_or] at hz
          cases h4 : decide (5 < (lp : Int)) with
          | true =>
            clear hz
            go_enter Try.func4, Try.ntmps4
            go_wp2_with fail
            refine (jawake_any w).mono ?_
            rintro e w1 ⟨rfl, hb⟩
            have HB := Lib.hid hb
            clear hb
            go_wp2
            go_ret
            exact ⟨rfl, HB.out⟩
          | false =>
            rw [h4, Bool.false_or] at hz
            go_enter Try.func4, Try.ntmps4
            go_wp2_with fail
            refine (jawake_any w).mono ?_
            rintro e w1 ⟨rfl, hb⟩
            have HB := Lib.hid hb
            clear hb
            go_wp2
            go_ret
            exact ⟨rfl, HB.out⟩
end Go.Proofs.Ytdldclakkplliaa
