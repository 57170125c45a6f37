/- The walk of does: a step of a disk and of the document's. Conditions: none. -/
import Derived.Test.YtdldclakkplliaaTwin
import Derived.Test.YtdldclakkplliaaCuts
namespace Go.Proofs.Ytdldclakkplliaa
set_option linter.unusedVariables false
set_option linter.unusedSimpArgs false
open Go.RowKit

noncomputable def G35a : Array Oper := regionOf Try.f35 3
theorem Gns35a : Region.noSelect G35a = true := by kernel_rfl
noncomputable def G35b : Array Oper := regionOf Try.f35 11
theorem Gns35b : Region.noSelect G35b = true := by kernel_rfl

theorem rwrite_64 (id gm : Nat) (r : RK) (n : Nat) (at' : Int) (A : Option Addr) (c cl : Nat) (b : List UInt8) (w : World) (col : Nat → Nat) (h : RefAt w col id gm r) (hf : r.fits n) (hn : n ≤ 1000000) (hr : RC w col cl A b) (hcl : cl ≠ id) (hsv : SV A 64 c) (hb : b.length = 64) :
    Calls Try.prog 62 #[.pointer (some ⟨gm, 0, none⟩), .int .i64 at', .slice A 64 c] w fun e w' => e = .returned (.int .i64 (rwriteE r at' 64)) ∧ ∃ col' A' c', Step id w col w' col' ∧ RefAt w' col' id gm (rwriteD r ⟨at', b, A', c'⟩) := by
  have hw := rwrite_any id gm r n at' A c cl b w col h hf hn hr hcl (by rw [hb]; exact hsv)
  rw [hb] at hw
  refine hw.mono ?_
  rintro e w' ⟨rfl, h⟩
  rw [hb]
  exact ⟨rfl, h⟩
/-- The state of the two. -/
structure Pair (w : World) (col : Nat → Nat) (id idm gd mb gm a : Nat) (d : DK) (r : RK) : Prop where
  disk : DiskAt w col id gd mb d
  ref : RefAt w col idm gm r
  twin : Twin d r
  fits : d.fits a
  m : d.m + d.cache.length ≤ a
def JJ (id idm : Nat) (j : Nat) : Prop := j = id ∨ j = idm
theorem Pair.path {J : Nat → Prop} {w w' : World} {col col' : Nat → Nat} {id idm gd mb gm a : Nat} {d : DK} {r : RK} (h : Pair w col id idm gd mb gm a d r) (p : Path J w col w' col') (hJ : ∀ j, J j → j ≠ 0 ∧ j ≠ id ∧ j ≠ idm) : Pair w' col' id idm gd mb gm a d r :=
  ⟨h.disk.path p fun j hj => ⟨(hJ j hj).1, (hJ j hj).2.1⟩, h.ref.path p fun j hj => ⟨(hJ j hj).1, (hJ j hj).2.2⟩, h.twin, h.fits, h.m⟩
theorem Pair.grow {w w' : World} {col : Nat → Nat} {id idm gd mb gm a : Nat} {d : DK} {r : RK} (h : Pair w col id idm gd mb gm a d r) (hb : Below w.heap.size w w') (new : Nat → Nat) : Pair w' (paint w col new) id idm gd mb gm a d r :=
  ⟨h.disk.grow hb new, h.ref.grow hb new, h.twin, h.fits, h.m⟩
theorem Pair.more {w : World} {col : Nat → Nat} {id idm gd mb gm a b : Nat} {d : DK} {r : RK} (h : Pair w col id idm gd mb gm a d r) (hab : a ≤ b) : Pair w col id idm gd mb gm b d r :=
  ⟨h.disk, h.ref, h.twin, DiskAt.fits' h.fits hab, Nat.le_trans h.m hab⟩
theorem write_lm (d : DK) (s : Wr) : (writeD d s).m + (writeD d s).cache.length ≤ d.m + d.cache.length + 1 := by
  unfold writeD
  split
  · show (askedK d).1.m + (d.cache ++ [s]).length ≤ _
    rw [asked_m, List.length_append]
    simp
    omega
  · rw [asked_m, asked_cache]
    omega
theorem flush_lm (d : DK) : (flushD d).m + (flushD d).cache.length ≤ d.m + d.cache.length := by
  unfold flushD
  split
  · show d.m + d.cache.length + ([] : List Wr).length ≤ _
    simp
  · rw [asked_m, asked_cache]
    omega
theorem disk_pos {w : World} {col : Nat → Nat} {id gd mb : Nat} {d : DK} (h : DiskAt w col id gd mb d) : ∀ s ∈ d.cache, 0 ≤ s.at_ ∧ s.at_ < d.n := by
  obtain ⟨v, h⟩ := h
  exact fun s hs => (h.cd s hs).2
def DoesQ (id idm gd mb gm a n : Nat) (w : World) (col : Nat → Nat) (e : Ending) (w' : World) : Prop :=
  ∃ (x : Int) (d' : DK) (r' : RK) (col' : Nat → Nat), e = .returned (.tuple #[.int .i64 x, .int .i64 x]) ∧ Path (JJ id idm) w col w' col' ∧ Pair w' col' id idm gd mb gm (a + 1) d' r' ∧ d'.n = n

set_option maxRecDepth 100000 in
set_option maxHeartbeats 8000000 in
theorem does_any (id idm gd mb gm a : Nat) (d : DK) (r : RK) (sk sa sn : Int) (w : World) (col : Nat → Nat) (h : Pair w col id idm gd mb gm a d r) (h0 : id ≠ 0) (h0m : idm ≠ 0) (hne : id ≠ idm) (ha : a ≤ 10000) (hwn : -9223372036854775808 ≤ sn ∧ sn ≤ 9223372036854775807) :
    Calls Try.prog 35 #[.pointer (some ⟨gd, 0, none⟩), .pointer (some ⟨gm, 0, none⟩), .agg #[.int .i64 sk, .int .i64 sa, .int .i64 sn]] w (DoesQ id idm gd mb gm a d.n w col) := by
  have HH := Lib.hid h
  have hJJ : ∀ j, JJ id idm j → j ≠ 0 := fun j hj => by rcases hj with rfl | rfl <;> assumption
  have HJJ := Lib.hid hJJ
  obtain ⟨W0, hW0⟩ : ∃ W, W = w.alloc (.cells #[.int .i64 sk, .int .i64 sa, .int .i64 sn] 62) := ⟨_, rfl⟩
  have hb0 : Below w.heap.size w W0 := by rw [hW0]; exact bel_alloc (Below.refl _ _) _
  have hg0 : W0.heap[w.heap.size]? = some (.cells #[.int .i64 sk, .int .i64 sa, .int .i64 sn] 62 (0, 0)) := by rw [hW0]; exact heap_alloc_new w _
  have HP0 : Hid (Path (JJ id idm) w col W0 (paint w col (fun _ => 0))) := Lib.hid (.grow .refl hb0)
  have HS0 := Lib.hid (h.grow hb0 (fun _ => 0))
  have HCG : Hid (∀ (X : World) (cX : Nat → Nat), Path (JJ id idm) W0 (paint w col (fun _ => 0)) X cX → X.cell? ⟨w.heap.size, 0, none⟩ = some (.int .i64 sk) ∧ X.cell? ⟨w.heap.size, 1, none⟩ = some (.int .i64 sa) ∧ X.cell? ⟨w.heap.size, 2, none⟩ = some (.int .i64 sn)) := Lib.hid (fun X cX p => by
    have h1 := p.cells HJJ.out hg0 (paint_new (Nat.le_refl _))
    exact ⟨by rw [cell_of_row _ _ 0 _ _ _ h1]; rfl, by rw [cell_of_row _ _ 1 _ _ _ h1]; rfl, by rw [cell_of_row _ _ 2 _ _ _ h1]; rfl⟩)
  obtain ⟨y0, y1, y2⟩ := HCG.out W0 _ .refl
  generalize hc0 : paint w col (fun _ => 0) = col0 at *
  clear hc0 h hJJ hb0 hg0
  rw [hW0] at y0 y1 y2
  by_cases k1 : sk = 1
  · subst k1
    go_enter Try.func35, Try.ntmps35
    go_upto_region 3 with fail
    rw [← hW0]
    obtain ⟨V, hV⟩ : ∃ V, V = W0.drew := ⟨_, rfl⟩
    have hbV : Below W0.heap.size W0 V := by rw [hV]; exact bel_drew (Below.refl _ _)
    have PV := Lib.hid (Path.grow HP0.out hbV)
    have PG := Lib.hid (Path.grow (Path.refl (J := JJ id idm) (w := W0) (col := col0)) hbV)
    have SV0 := Lib.hid (HS0.out.grow hbV (fun _ => 0))
    obtain ⟨x0, x1, x2⟩ := HCG.out V _ PG.out
    obtain ⟨B, hB⟩ : ∃ B, B = blk 64 sn := ⟨_, rfl⟩
    have HBK : Hid (∀ X, Calls Try.prog 29 #[.int .i64 sn] X fun e w' => ∃ A c, e = .returned (.slice A 64 c) ∧ SV A 64 c ∧ RB w' A B ∧ (∀ ad, A = some ad → X.heap.size ≤ ad.block) ∧ Below X.heap.size X w') := Lib.hid (fun X => by rw [hB]; exact blkS_any sn X)
    have HBL : Hid (B.length = 64) := Lib.hid (by rw [hB]; exact blk_length _ _)
    clear y0 y1 y2 hB hbV
    refine region_const (G := G35a) (S := fun X => X.cell? ⟨w.heap.size, 1, none⟩ = some (.int .i64 sa) ∧ X.cell? ⟨w.heap.size, 2, none⟩ = some (.int .i64 sn)) (n := 16) (by kernel_rfl) (by kernel_rfl) rfl (by rw [← hV]; exact ⟨x1, x2⟩) (fun HG hS0 => ?_)
    have Gns := Gns35a
    rw [← hV]
    rw [← hV] at hS0
    clear hV x0
    simp only [Array.replicate_succ, Array.replicate_zero, List.push_toArray, List.nil_append, List.cons_append]
    refine wpAnyH_take (i := 0) (v := ?_) (o_at HG 0 rfl) Gns (by kernel_rfl) (by kernel_rfl) (fun _ _ _ h => h) (Or.inl ⟨(by kernel_rfl), ?_⟩) (by first | trivial | assumption) ?_
    rotate_left
    · (intro w hSw; (try dsimp only at hSw); go_simp; try with_reducible rfl)
    try simp only [Act.put, List.getElem_toArray, List.getElem_cons_zero, List.getElem_cons_succ, List.setIfInBounds_toArray, List.set_cons_zero, List.set_cons_succ]
    refine wpAnyH_take (i := 1) (v := ?_) (o_at HG 1 rfl) Gns (by kernel_rfl) (by kernel_rfl) (fun _ _ _ h => h) (Or.inl ⟨(by kernel_rfl), ?_⟩) (by first | trivial | assumption) ?_
    rotate_left
    · (intro w hSw; (try dsimp only at hSw); go_simp; try with_reducible rfl)
    try simp only [Act.put, List.getElem_toArray, List.getElem_cons_zero, List.getElem_cons_succ, List.setIfInBounds_toArray, List.set_cons_zero, List.set_cons_succ]
    refine wpAnyH_take (i := 2) (v := ?_) (o_at HG 2 rfl) Gns (by kernel_rfl) (by kernel_rfl) (fun _ _ _ h => h) (Or.inl ⟨(by kernel_rfl), ?_⟩) (by first | trivial | assumption) ?_
    rotate_left
    · (intro w hSw; (try dsimp only at hSw); go_simp; try with_reducible rfl)
    try simp only [Act.put, List.getElem_toArray, List.getElem_cons_zero, List.getElem_cons_succ, List.setIfInBounds_toArray, List.set_cons_zero, List.set_cons_succ]
    refine wpAnyH_take (i := 3) (v := ?_) (o_at HG 3 rfl) Gns (by kernel_rfl) (by kernel_rfl) (fun _ _ _ h => h) (Or.inl ⟨(by kernel_rfl), ?_⟩) (by first | trivial | assumption) ?_
    rotate_left
    · (intro w hSw; (try dsimp only at hSw); go_simp; try with_reducible rfl)
    try simp only [Act.put, List.getElem_toArray, List.getElem_cons_zero, List.getElem_cons_succ, List.setIfInBounds_toArray, List.set_cons_zero, List.set_cons_succ]
    refine wpAnyH_take (i := 4) (v := ?_) (o_at HG 4 rfl) Gns (by kernel_rfl) (by kernel_rfl) (fun _ _ _ h => h) (Or.inl ⟨(by kernel_rfl), ?_⟩) (by first | trivial | assumption) ?_
    rotate_left
    · (intro w hSw; (try dsimp only at hSw); go_simp; try with_reducible rfl)
    try simp only [Act.put, List.getElem_toArray, List.getElem_cons_zero, List.getElem_cons_succ, List.setIfInBounds_toArray, List.set_cons_zero, List.set_cons_succ]
    refine wpAnyH_take (i := 7) (v := ?_) (o_at HG 7 rfl) Gns (by kernel_rfl) (by kernel_rfl) (fun _ _ _ h => h) (Or.inl ⟨(by kernel_rfl), ?_⟩) (by first | trivial | assumption) ?_
    rotate_left
    · (intro w hSw; (try dsimp only at hSw); go_simp; try with_reducible rfl)
    try simp only [Act.put, List.getElem_toArray, List.getElem_cons_zero, List.getElem_cons_succ, List.setIfInBounds_toArray, List.set_cons_zero, List.set_cons_succ]
    refine wpAnyH_take (i := 8) (v := ?_) (o_at HG 8 rfl) Gns (by kernel_rfl) (by kernel_rfl) (fun _ _ _ h => h) (Or.inl ⟨(by kernel_rfl), ?_⟩) (by first | trivial | assumption) ?_
    rotate_left
    · (intro w hSw; (try dsimp only at hSw); go_simp; try with_reducible rfl)
    try simp only [Act.put, List.getElem_toArray, List.getElem_cons_zero, List.getElem_cons_succ, List.setIfInBounds_toArray, List.set_cons_zero, List.set_cons_succ]
    refine wpAnyH_take (i := 9) (v := ?_) (o_at HG 9 rfl) Gns (by kernel_rfl) (by kernel_rfl) (fun _ _ _ h => h) (Or.inl ⟨(by kernel_rfl), ?_⟩) (by first | trivial | assumption) ?_
    rotate_left
    · (intro w hSw; (try dsimp only at hSw); go_simp; try with_reducible rfl)
    try simp only [Act.put, List.getElem_toArray, List.getElem_cons_zero, List.getElem_cons_succ, List.setIfInBounds_toArray, List.set_cons_zero, List.set_cons_succ]
    refine wpAnyH_take (i := 10) (v := ?_) (o_at HG 10 rfl) Gns (by kernel_rfl) (by kernel_rfl) (fun _ _ _ h => h) (Or.inl ⟨(by kernel_rfl), ?_⟩) (by first | trivial | assumption) ?_
    rotate_left
    · (intro w hSw; (try dsimp only at hSw); go_simp; try with_reducible rfl)
    try simp only [Act.put, List.getElem_toArray, List.getElem_cons_zero, List.getElem_cons_succ, List.setIfInBounds_toArray, List.set_cons_zero, List.set_cons_succ]
    refine wpAnyH_take (i := 11) (v := ?_) (o_at HG 11 rfl) Gns (by kernel_rfl) (by kernel_rfl) (fun _ _ _ h => h) (Or.inl ⟨(by kernel_rfl), ?_⟩) (by first | trivial | assumption) ?_
    rotate_left
    · (intro w hSw; (try dsimp only at hSw); go_simp; try with_reducible rfl)
    try simp only [Act.put, List.getElem_toArray, List.getElem_cons_zero, List.getElem_cons_succ, List.setIfInBounds_toArray, List.set_cons_zero, List.set_cons_succ]
    refine wpAnyH_ready (rs := [5]) (by kernel_rfl) (by simp) ?_
    refine AllReadyH.cons (o_at HG 5 rfl) ?_ (AllReadyH.nil)
    · intro K' hK
      rw [if_pos (by kernel_rfl)]
      go_simp
      (with_reducible refine (HBK.out _).mono ?_)
      rintro e X1 ⟨A1, k1', rfl, sv1, rb1, fr1, hb1⟩
      have P1 := Lib.hid (Path.grow PV.out hb1)
      have PG1 := Lib.hid (Path.grow PG.out hb1)
      have S1 := Lib.hid (SV0.out.grow hb1 (fun _ => 0))
      have R1 := Lib.hid (RC.new (col := paint W0 col0 (fun _ => 0)) 0 rb1 fr1)
      have SV1 := Lib.hid sv1
      obtain ⟨-, x91, x92⟩ := HCG.out X1 _ PG1.out
      refine hK.out _ _ ⟨x91, x92⟩ (fun hS1 => ?_)
      clear sv1 rb1 fr1 hb1 x91 x92
      try simp only [Act.put, List.getElem_toArray, List.getElem_cons_zero, List.getElem_cons_succ, List.setIfInBounds_toArray, List.set_cons_zero, List.set_cons_succ]
      refine wpAnyH_ready (rs := [6]) (by kernel_rfl) (by simp) ?_
      refine AllReadyH.cons (o_at HG 6 rfl) ?_ (AllReadyH.nil)
      · intro K' hK
        rw [if_pos (by kernel_rfl)]
        go_simp
        (with_reducible refine (write_64 id gd mb d a _ A1 k1' 0 B X1 _ S1.out.disk S1.out.fits (by omega) R1.out h0.symm SV1.out HBL.out).mono ?_)
        rintro e X2 ⟨rfl, c2, A2', k2', st2, hd2⟩
        have P2 := Lib.hid (Path.step (J := JJ id idm) (.inl rfl) P1.out st2)
        have PG2 := Lib.hid (Path.step (J := JJ id idm) (.inl rfl) PG1.out st2)
        have RF2 := Lib.hid (S1.out.ref.step st2 hne h0)
        have D2 := Lib.hid hd2
        obtain ⟨-, x91, x92⟩ := HCG.out X2 _ PG2.out
        refine hK.out _ _ ⟨x91, x92⟩ (fun hS2 => ?_)
        clear st2 hd2 x91 x92
        try simp only [Act.put, List.getElem_toArray, List.getElem_cons_zero, List.getElem_cons_succ, List.setIfInBounds_toArray, List.set_cons_zero, List.set_cons_succ]
        refine wpAnyH_ready (rs := [12]) (by kernel_rfl) (by simp) ?_
        refine AllReadyH.cons (o_at HG 12 rfl) ?_ (AllReadyH.nil)
        · intro K' hK
          rw [if_pos (by kernel_rfl)]
          go_simp
          (with_reducible refine (HBK.out _).mono ?_)
          rintro e X3 ⟨A3, k3', rfl, sv3, rb3, fr3, hb3⟩
          have P3 := Lib.hid (Path.grow P2.out hb3)
          have PG3 := Lib.hid (Path.grow PG2.out hb3)
          have D3 := Lib.hid (D2.out.grow hb3 (fun _ => 0))
          have RF3 := Lib.hid (RF2.out.grow hb3 (fun _ => 0))
          have R3 := Lib.hid (RC.new (col := c2) 0 rb3 fr3)
          have SV3 := Lib.hid sv3
          obtain ⟨-, x91, x92⟩ := HCG.out X3 _ PG3.out
          refine hK.out _ _ ⟨x91, x92⟩ (fun hS3 => ?_)
          clear sv3 rb3 fr3 hb3 x91 x92
          try simp only [Act.put, List.getElem_toArray, List.getElem_cons_zero, List.getElem_cons_succ, List.setIfInBounds_toArray, List.set_cons_zero, List.set_cons_succ]
          refine wpAnyH_ready (rs := [13]) (by kernel_rfl) (by simp) ?_
          refine AllReadyH.cons (o_at HG 13 rfl) ?_ (AllReadyH.nil)
          · intro K' hK
            rw [if_pos (by kernel_rfl)]
            go_simp
            (with_reducible refine (rwrite_64 idm gm r a _ A3 k3' 0 B X3 _ RF3.out (HH.out.twin.fits HH.out.fits) (by omega) R3.out h0m.symm SV3.out HBL.out).mono ?_)
            rintro e X4 ⟨rfl, c4, A4', k4', st4, hr4⟩
            have P4 := Lib.hid (Path.step (J := JJ id idm) (.inr rfl) P3.out st4)
            have PG4 := Lib.hid (Path.step (J := JJ id idm) (.inr rfl) PG3.out st4)
            have HE4 : Hid (Pair X4 c4 id idm gd mb gm (a + 1) (writeD d ⟨sa, B, A2', k2'⟩) (rwriteD r ⟨sa, B, A4', k4'⟩)) := Lib.hid ⟨D3.out.step st4 (fun e => hne e.symm) h0m, hr4, twin_write HH.out.twin _ _ rfl rfl, write_fits HH.out.fits, Nat.le_trans (write_lm d _) (by have := HH.out.m; omega)⟩
            obtain ⟨-, x91, x92⟩ := HCG.out X4 _ PG4.out
            refine hK.out _ _ ⟨x91, x92⟩ (fun hS4 => ?_)
            clear st4 hr4 x91 x92
            try simp only [Act.put, List.getElem_toArray, List.getElem_cons_zero, List.getElem_cons_succ, List.setIfInBounds_toArray, List.set_cons_zero, List.set_cons_succ]
            refine wpAnyH_take (i := 14) (v := ?_) (o_at HG 14 rfl) Gns (by kernel_rfl) (by kernel_rfl) (fun _ _ _ h => h) (Or.inl ⟨(by kernel_rfl), ?_⟩) (by first | trivial | assumption) ?_
            rotate_left
            · (intro w hSw; (try dsimp only at hSw); go_simp; try with_reducible rfl)
            try simp only [Act.put, List.getElem_toArray, List.getElem_cons_zero, List.getElem_cons_succ, List.setIfInBounds_toArray, List.set_cons_zero, List.set_cons_succ]
            refine wpAnyH_take (i := 15) (v := ?_) (o_at HG 15 rfl) Gns (by kernel_rfl) (by kernel_rfl) (fun _ _ _ h => h) (Or.inl ⟨(by kernel_rfl), ?_⟩) (by first | trivial | assumption) ?_
            rotate_left
            · (intro w hSw; (try dsimp only at hSw); go_simp; try with_reducible rfl)
            try simp only [Act.put, List.getElem_toArray, List.getElem_cons_zero, List.getElem_cons_succ, List.setIfInBounds_toArray, List.set_cons_zero, List.set_cons_succ]
            refine wpAnyH_done (by kernel_rfl) ?_ _
            go_wp2
            go_ret2
            exact ⟨rwriteE r sa 64, _, _, c4, by rw [twin_writeE HH.out.twin]; rfl, P4.out, HE4.out, write_n _ _⟩
  · by_cases k2 : sk = 2
    · subst k2
      clear k1
      go_enter Try.func35, Try.ntmps35
      go_wp2_with fail
      rw [← hW0]
      clear y0 y1 y2
      refine (flush_any id gd mb d a W0 col0 HS0.out.disk HS0.out.fits (by omega) (by have := HS0.out.m; omega)).mono ?_
      rintro e X1 ⟨rfl, st1, hd1⟩
      have P1 := Lib.hid (Path.step (J := JJ id idm) (.inl rfl) HP0.out st1)
      have R1 := Lib.hid (HS0.out.ref.step st1 hne h0)
      have D1 := Lib.hid hd1
      clear st1 hd1
      go_wp2_with fail
      refine (rflush_any idm gm r a X1 col0 R1.out (HS0.out.twin.fits HS0.out.fits) (by omega)).mono ?_
      rintro e X2 ⟨rfl, c2, st2, hr2⟩
      have P2 := Lib.hid (Path.step (J := JJ id idm) (.inr rfl) P1.out st2)
      have D2 := Lib.hid (D1.out.step st2 (fun e => hne e.symm) h0m)
      have R2 := Lib.hid hr2
      clear st2 hr2
      go_wp2
      go_ret2
      exact ⟨(ractK r).2, _, _, c2, by rw [(twin_act HS0.out.twin).1]; rfl, P2.out, ⟨D2.out, R2.out, twin_flush HS0.out.twin (fun s hs => (disk_pos HS0.out.disk s hs).1), flush_fits HS0.out.fits, Nat.le_trans (flush_lm d) (by have := HS0.out.m; omega)⟩, flush_n d⟩
    · by_cases k3 : sk = 3
      · subst k3
        clear k1 k2
        obtain ⟨v0, hv0⟩ := HS0.out.disk
        have HV0 := Lib.hid hv0
        clear hv0
        go_enter Try.func35, Try.ntmps35
        go_wp2_with fail
        rw [← hW0]
        refine (cut_any id gd mb v0 d sn W0 col0 HV0.out).mono ?_
        rintro e X1 ⟨rfl, st1, hd1⟩
        have P1 := Lib.hid (Path.step (J := JJ id idm) (.inl rfl) HP0.out st1)
        have PG := Lib.hid (Path.step (J := JJ id idm) (.inl rfl) (Path.refl (w := W0) (col := col0)) st1)
        obtain ⟨x0, x1, x2⟩ := HCG.out X1 _ PG.out
        obtain ⟨vs, vc, hr1⟩ := HS0.out.ref.step st1 hne h0
        have R1 := Lib.hid hr1
        have D1 := Lib.hid hd1
        clear st1 hd1 hr1 y0 y1 y2
        go_wp2_with fail
        refine (rcut_any idm gm vs vc r sn X1 col0 R1.out).mono ?_
        rintro e X2 ⟨rfl, st2, hr2⟩
        have P2 := Lib.hid (Path.step (J := JJ id idm) (.inr rfl) P1.out st2)
        have D2 := Lib.hid (D1.out.step st2 (fun e => hne e.symm) h0m)
        have R2 := Lib.hid hr2
        clear st2 hr2 x0 x1 x2
        go_wp2
        go_ret2
        refine ⟨_, _, _, col0, rfl, P2.out, ⟨⟨_, D2.out⟩, ⟨_, _, R2.out⟩, twin_cut HS0.out.twin sn, ?_, ?_⟩, rfl⟩
        · obtain ⟨q1, q2, q3, q4, q5⟩ := HS0.out.fits
          refine ⟨?_, ?_, q3, by show d.ops ≤ _; omega, by show d.cache.length ≤ _; omega⟩
          · show _ ≤ if sn < 0 then 0 else sn
            split <;> omega
          · show (if sn < 0 then 0 else sn) ≤ _
            split <;> omega
        · show d.m + d.cache.length ≤ _
          have := HS0.out.m
          omega
      · by_cases k4 : sk = 4
        · subst k4
          clear k1 k2 k3
          obtain ⟨l, hl⟩ : ∃ l : Nat, (l : Int) = sn % 100 := ⟨(sn % 100).toNat, by omega⟩
          have hl100 : l ≤ 100 := by omega
          have HRD := Lib.hid (show ∀ X, Calls Try.prog 27 #[.int .i64 sn, .int .i64 100] X fun e w' => e = .returned (.int .i64 (l : Int)) ∧ X = w' from fun X => by rw [hl]; exact round_any sn 100 X hwn.1 hwn.2 (by omega) (by omega))
          clear hl
          go_enter Try.func35, Try.ntmps35
          go_wp2_with fail
          refine (HRD.out _).mono ?_
          rintro e w' ⟨rfl, rfl⟩
          rw [← hW0]
          clear hW0 y0 y1 y2
          go_upto_region 11 with (first | (at_make; go_loud (refine wp_make_at rfl _ _ 22 5 rfl Try.underlying22 info5 _ _ _ _ l rfl rfl (by omega) (by omega) (by omega) ?_); intro X1 ho hb; have HO1 := Lib.hid ho; have HB1 := Lib.hid hb; clear ho hb) | fail)
          obtain ⟨B, hB⟩ : ∃ B, B = List.replicate l (0 : UInt8) := ⟨_, rfl⟩
          have hBl : B.length = l := by rw [hB]; exact List.length_replicate ..
          obtain ⟨A1, k1', e1, sv1, rb1⟩ := HO1.out.reads
          rw [← hB, hBl] at e1
          rw [← hB] at sv1 rb1
          cases e1
          obtain ⟨A1, hA1⟩ : ∃ A, A = (some ⟨W0.heap.size, 0, none⟩ : Option Addr) := ⟨_, rfl⟩
          rw [← hA1] at sv1 rb1 ⊢
          obtain ⟨V, hV⟩ : ∃ V, V = X1.drew := ⟨_, rfl⟩
          have hbV : Below W0.heap.size W0 V := by rw [hV]; exact bel_drew HB1.out
          have hbX : Below X1.heap.size X1 V := by rw [hV]; exact bel_drew (Below.refl _ _)
          have PV := Lib.hid (Path.grow HP0.out hbV)
          have PG := Lib.hid (Path.grow (Path.refl (J := JJ id idm) (w := W0) (col := col0)) hbV)
          have S0' := Lib.hid (HS0.out.grow hbV (fun _ => 0))
          have R0' : Hid (RC V (paint W0 col0 (fun _ => 0)) 0 A1 B) := Lib.hid (RC.new 0 (rb1.below hbX) (fun ad e => by rw [hA1] at e; cases e; exact Nat.le_refl _))
          obtain ⟨x0, x1, x2⟩ := HCG.out V _ PG.out
          have HW1 : Hid (∀ X cX, Pair X cX id idm gd mb gm a d r → RC X cX 0 A1 B → Calls Try.prog 28 #[.pointer (some ⟨gd, 0, none⟩), .int .i64 sa, .slice A1 l l] X fun e w' => e = .returned (.int .i64 (writeE d sa l)) ∧ ∃ col' A' c', Step id X cX w' col' ∧ DiskAt w' col' id gd mb (writeD d ⟨sa, B, A', c'⟩)) := Lib.hid (fun X cX hp hr => by
            have hw := write_any id gd mb d a sa A1 l 0 B X cX hp.disk hp.fits (by omega) hr h0.symm (by rw [hBl] at sv1 ⊢; exact sv1)
            rw [hBl] at hw
            refine hw.mono ?_
            rintro e w' ⟨rfl, h⟩
            exact ⟨by rw [hBl], h⟩)
          have HW2 : Hid (∀ X cX, RefAt X cX idm gm r → RC X cX 0 A1 B → Calls Try.prog 62 #[.pointer (some ⟨gm, 0, none⟩), .int .i64 sa, .slice A1 l l] X fun e w' => e = .returned (.int .i64 (rwriteE r sa l)) ∧ ∃ col' A' c', Step idm X cX w' col' ∧ RefAt w' col' idm gm (rwriteD r ⟨sa, B, A', c'⟩)) := Lib.hid (fun X cX hp hr => by
            have hw := rwrite_any idm gm r a sa A1 l 0 B X cX hp (HH.out.twin.fits HH.out.fits) (by omega) hr h0m.symm (by rw [hBl] at sv1 ⊢; exact sv1)
            rw [hBl] at hw
            refine hw.mono ?_
            rintro e w' ⟨rfl, h⟩
            exact ⟨by rw [hBl], h⟩)
          clear hbV hbX sv1 rb1 hA1 hB hBl x0 x2 HO1
          refine region_const (G := G35b) (S := fun X => X.cell? ⟨w.heap.size, 1, none⟩ = some (.int .i64 sa)) (n := 12) (by kernel_rfl) (by kernel_rfl) rfl (by rw [← hV]; exact x1) (fun HG hS0 => ?_)
          have Gns := Gns35b
          rw [← hV]
          rw [← hV] at hS0
          clear hV x1
          simp only [Array.replicate_succ, Array.replicate_zero, List.push_toArray, List.nil_append, List.cons_append]
          refine wpAnyH_take (i := 0) (v := ?_) (o_at HG 0 rfl) Gns (by kernel_rfl) (by kernel_rfl) (fun _ _ _ h => h) (Or.inl ⟨(by kernel_rfl), ?_⟩) (by first | trivial | assumption) ?_
          rotate_left
          · (intro w hSw; (try dsimp only at hSw); go_simp; try with_reducible rfl)
          try simp only [Act.put, List.getElem_toArray, List.getElem_cons_zero, List.getElem_cons_succ, List.setIfInBounds_toArray, List.set_cons_zero, List.set_cons_succ]
          refine wpAnyH_take (i := 1) (v := ?_) (o_at HG 1 rfl) Gns (by kernel_rfl) (by kernel_rfl) (fun _ _ _ h => h) (Or.inl ⟨(by kernel_rfl), ?_⟩) (by first | trivial | assumption) ?_
          rotate_left
          · (intro w hSw; (try dsimp only at hSw); go_simp; try with_reducible rfl)
          try simp only [Act.put, List.getElem_toArray, List.getElem_cons_zero, List.getElem_cons_succ, List.setIfInBounds_toArray, List.set_cons_zero, List.set_cons_succ]
          refine wpAnyH_take (i := 2) (v := ?_) (o_at HG 2 rfl) Gns (by kernel_rfl) (by kernel_rfl) (fun _ _ _ h => h) (Or.inl ⟨(by kernel_rfl), ?_⟩) (by first | trivial | assumption) ?_
          rotate_left
          · (intro w hSw; (try dsimp only at hSw); go_simp; try with_reducible rfl)
          try simp only [Act.put, List.getElem_toArray, List.getElem_cons_zero, List.getElem_cons_succ, List.setIfInBounds_toArray, List.set_cons_zero, List.set_cons_succ]
          refine wpAnyH_take (i := 3) (v := ?_) (o_at HG 3 rfl) Gns (by kernel_rfl) (by kernel_rfl) (fun _ _ _ h => h) (Or.inl ⟨(by kernel_rfl), ?_⟩) (by first | trivial | assumption) ?_
          rotate_left
          · (intro w hSw; (try dsimp only at hSw); go_simp; try with_reducible rfl)
          try simp only [Act.put, List.getElem_toArray, List.getElem_cons_zero, List.getElem_cons_succ, List.setIfInBounds_toArray, List.set_cons_zero, List.set_cons_succ]
          refine wpAnyH_take (i := 5) (v := ?_) (o_at HG 5 rfl) Gns (by kernel_rfl) (by kernel_rfl) (fun _ _ _ h => h) (Or.inl ⟨(by kernel_rfl), ?_⟩) (by first | trivial | assumption) ?_
          rotate_left
          · (intro w hSw; (try dsimp only at hSw); go_simp; try with_reducible rfl)
          try simp only [Act.put, List.getElem_toArray, List.getElem_cons_zero, List.getElem_cons_succ, List.setIfInBounds_toArray, List.set_cons_zero, List.set_cons_succ]
          refine wpAnyH_take (i := 6) (v := ?_) (o_at HG 6 rfl) Gns (by kernel_rfl) (by kernel_rfl) (fun _ _ _ h => h) (Or.inl ⟨(by kernel_rfl), ?_⟩) (by first | trivial | assumption) ?_
          rotate_left
          · (intro w hSw; (try dsimp only at hSw); go_simp; try with_reducible rfl)
          try simp only [Act.put, List.getElem_toArray, List.getElem_cons_zero, List.getElem_cons_succ, List.setIfInBounds_toArray, List.set_cons_zero, List.set_cons_succ]
          refine wpAnyH_take (i := 7) (v := ?_) (o_at HG 7 rfl) Gns (by kernel_rfl) (by kernel_rfl) (fun _ _ _ h => h) (Or.inl ⟨(by kernel_rfl), ?_⟩) (by first | trivial | assumption) ?_
          rotate_left
          · (intro w hSw; (try dsimp only at hSw); go_simp; try with_reducible rfl)
          try simp only [Act.put, List.getElem_toArray, List.getElem_cons_zero, List.getElem_cons_succ, List.setIfInBounds_toArray, List.set_cons_zero, List.set_cons_succ]
          refine wpAnyH_take (i := 8) (v := ?_) (o_at HG 8 rfl) Gns (by kernel_rfl) (by kernel_rfl) (fun _ _ _ h => h) (Or.inl ⟨(by kernel_rfl), ?_⟩) (by first | trivial | assumption) ?_
          rotate_left
          · (intro w hSw; (try dsimp only at hSw); go_simp; try with_reducible rfl)
          try simp only [Act.put, List.getElem_toArray, List.getElem_cons_zero, List.getElem_cons_succ, List.setIfInBounds_toArray, List.set_cons_zero, List.set_cons_succ]
          refine wpAnyH_ready (rs := [4]) (by kernel_rfl) (by simp) ?_
          refine AllReadyH.cons (o_at HG 4 rfl) ?_ (AllReadyH.nil)
          · intro K' hK
            rw [if_pos (by kernel_rfl)]
            go_simp
            (with_reducible refine (HW1.out _ _ S0'.out R0'.out).mono ?_)
            rintro e X2 ⟨rfl, c2, A2', k2', st2, hd2⟩
            have P2 := Lib.hid (Path.step (J := JJ id idm) (.inl rfl) PV.out st2)
            have PG2 := Lib.hid (Path.step (J := JJ id idm) (.inl rfl) PG.out st2)
            have RF2 := Lib.hid (S0'.out.ref.step st2 hne h0)
            have RB2 := Lib.hid (R0'.out.step st2 h0)
            have D2 := Lib.hid hd2
            obtain ⟨-, x91, x92⟩ := HCG.out X2 _ PG2.out
            refine hK.out _ _ x91 (fun hS2 => ?_)
            clear st2 hd2 x91 x92
            try simp only [Act.put, List.getElem_toArray, List.getElem_cons_zero, List.getElem_cons_succ, List.setIfInBounds_toArray, List.set_cons_zero, List.set_cons_succ]
            refine wpAnyH_ready (rs := [9]) (by kernel_rfl) (by simp) ?_
            refine AllReadyH.cons (o_at HG 9 rfl) ?_ (AllReadyH.nil)
            · intro K' hK
              rw [if_pos (by kernel_rfl)]
              go_simp
              (with_reducible refine (HW2.out _ _ RF2.out RB2.out).mono ?_)
              rintro e X4 ⟨rfl, c4, A4', k4', st4, hr4⟩
              have P4 := Lib.hid (Path.step (J := JJ id idm) (.inr rfl) P2.out st4)
              have PG4 := Lib.hid (Path.step (J := JJ id idm) (.inr rfl) PG2.out st4)
              have HE4 : Hid (Pair X4 c4 id idm gd mb gm (a + 1) (writeD d ⟨sa, B, A2', k2'⟩) (rwriteD r ⟨sa, B, A4', k4'⟩)) := Lib.hid ⟨D2.out.step st4 (fun e => hne e.symm) h0m, hr4, twin_write HH.out.twin _ _ rfl rfl, write_fits HH.out.fits, Nat.le_trans (write_lm d _) (by have := HH.out.m; omega)⟩
              obtain ⟨-, x91, x92⟩ := HCG.out X4 _ PG4.out
              refine hK.out _ _ x91 (fun hS4 => ?_)
              clear st4 hr4 x91 x92
              try simp only [Act.put, List.getElem_toArray, List.getElem_cons_zero, List.getElem_cons_succ, List.setIfInBounds_toArray, List.set_cons_zero, List.set_cons_succ]
              refine wpAnyH_take (i := 10) (v := ?_) (o_at HG 10 rfl) Gns (by kernel_rfl) (by kernel_rfl) (fun _ _ _ h => h) (Or.inl ⟨(by kernel_rfl), ?_⟩) (by first | trivial | assumption) ?_
              rotate_left
              · (intro w hSw; (try dsimp only at hSw); go_simp; try with_reducible rfl)
              try simp only [Act.put, List.getElem_toArray, List.getElem_cons_zero, List.getElem_cons_succ, List.setIfInBounds_toArray, List.set_cons_zero, List.set_cons_succ]
              refine wpAnyH_take (i := 11) (v := ?_) (o_at HG 11 rfl) Gns (by kernel_rfl) (by kernel_rfl) (fun _ _ _ h => h) (Or.inl ⟨(by kernel_rfl), ?_⟩) (by first | trivial | assumption) ?_
              rotate_left
              · (intro w hSw; (try dsimp only at hSw); go_simp; try with_reducible rfl)
              try simp only [Act.put, List.getElem_toArray, List.getElem_cons_zero, List.getElem_cons_succ, List.setIfInBounds_toArray, List.set_cons_zero, List.set_cons_succ]
              refine wpAnyH_done (by kernel_rfl) ?_ _
              go_wp2
              go_ret2
              exact ⟨rwriteE r sa l, _, _, c4, by rw [twin_writeE HH.out.twin]; rfl, P4.out, HE4.out, write_n _ _⟩
        · have e1 : (sk == 1) = false := by simp [k1]
          have e2 : (sk == 2) = false := by simp [k2]
          have e3 : (sk == 3) = false := by simp [k3]
          have e4 : (sk == 4) = false := by simp [k4]
          clear k1 k2 k3 k4
          go_enter Try.func35, Try.ntmps35
          go_wp2
          go_ret2
          rw [← hW0]
          exact ⟨_, _, _, col0, rfl, HP0.out, HS0.out.more (by omega), rfl⟩
end Go.Proofs.Ytdldclakkplliaa
