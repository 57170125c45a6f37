/- The walk of Crash of a disk. Conditions: none. -/
import Derived.Test.YtdldclakkplliaaConcat
import Derived.Deep.DeepCutAuto
namespace Go.Proofs.Ytdldclakkplliaa
set_option linter.unusedVariables false
set_option linter.unusedSimpArgs false
open Go.RowKit

noncomputable def G20a : Array Oper := regionOf Try.f20 22
theorem Gns20a : Region.noSelect G20a = true := by kernel_rfl
noncomputable def G20b : Array Oper := regionOf Try.f20 23
theorem Gns20b : Region.noSelect G20b = true := by kernel_rfl

theorem crash_base {w1 w2 : World} {c1 : Nat → Nat} {id2 gd2 mb2 mb3 n m : Nat} {v2 : Value} {f : Int → Option Wr} (h2 : DiskV w1 c1 id2 gd2 mb2 v2 (newDK n)) (hm : MapAt w2 mb3 m f) (hb : Below w1.heap.size w1 w2) (hmb : mb3 = w1.heap.size) (hsd : ∀ i s, f i = some s → Sec w1 c1 s) :
    Step id2 w1 c1 (w2.setCell ⟨gd2, 1, none⟩ (.map (some mb3))) (paint w1 c1 (fun _ => id2)) ∧ DiskV (w2.setCell ⟨gd2, 1, none⟩ (.map (some mb3))) (paint w1 c1 (fun _ => id2)) id2 gd2 mb3 v2 ⟨n, f, [], false, false, 0, 0, m⟩ := by
  have hgl : gd2 < w1.heap.size := (Array.getElem?_eq_some_iff.1 h2.obj).1
  have st : Step id2 w1 c1 (w2.setCell ⟨gd2, 1, none⟩ (.map (some mb3))) (paint w1 c1 (fun _ => id2)) := Step.mk' ((((Keeps.refl _ _).below hb).setCell (.inl rfl) _).mono (fun k _ e => by have e2 : gd2 = k := e; rw [← e2]; exact h2.hcol))
  have hset := row_set (j := 1) (.map (some mb3)) (heap_below h2.obj hb)
  refine ⟨st, ⟨(paint_old hgl).trans h2.hcol, h2.nz, by simpa [dcells, newDK] using hset, ?_, fun k hk => ?_, hm.keep (Below.heap_setCell _ _ _ _ (by show mb3 ≠ gd2; omega)), by omega, by rw [hmb]; exact paint_new (Nat.le_refl _), fun i s hs => (hsd i s hs).step st h2.nz, (fun s hs => by cases hs), h2.dom⟩⟩
  · refine own_keep h2.own fun k hk => ?_
    rw [Below.heap_setCell _ _ _ _ (show k ≠ gd2 from (h2.blk k hk).1)]
    exact hb.block k (h2.own.lt k hk).2
  · have h3 := h2.blk k hk
    have h4 := (h2.own.lt k hk).2
    exact ⟨h3.1, by omega, (paint_old h4).trans h3.2.2⟩

/-- Which of the cache live: those whose bit is set. -/
def liveQ (p0 : Int) (k : Nat) : Bool := bits BinOp.and IntKind.i64 (p0 / 2 ^ (k % 30)) 1 == 1
def liveK (p0 : Int) (ws : List Wr) : Nat → List Wr
  | 0 => []
  | k + 1 => liveK p0 ws k ++ (if liveQ p0 k = true then [elB ws k] else [])
theorem liveK_len (p0 : Int) (ws : List Wr) (k : Nat) : (liveK p0 ws k).length ≤ k := by
  induction k with
  | zero => simp [liveK]
  | succ k ih => simp only [liveK, List.length_append]; split <;> simp <;> omega
theorem liveK_mem {p0 : Int} {ws : List Wr} {k : Nat} (hk : k ≤ ws.length) {s : Wr} (h : s ∈ liveK p0 ws k) : s ∈ ws := by
  induction k with
  | zero => cases h
  | succ k ih =>
    simp only [liveK] at h
    rcases List.mem_append.1 h with h | h
    · exact ih (by omega) h
    · split at h
      · rw [List.mem_singleton] at h
        rw [h, elB, List.getD_eq_getElem?_getD, List.getElem?_eq_getElem (by omega)]
        exact List.getElem_mem _
      · cases h
def tornK (p1 : Int) (n : Nat) : Int := if 0 < p1 ∧ 0 < n then p1 % n else -1
def crashB (tn : Int) (t : Nat) (f : Int → List UInt8) (lv : List Wr) : Nat → Int → List UInt8
  | 0 => f
  | m + 1 => fun i => if i = (elB lv m).at_ then (if (m : Int) = tn then (elB lv m).b.take t ++ (crashB tn t f lv m (elB lv m).at_).drop t else (elB lv m).b) else crashB tn t f lv m i

theorem t_round (p2 : Int) : (wrap64 (p2.tmod 65 + 65)).tmod 65 = p2 % 65 := by
  have h1 := tmod_round p2 65 (by omega)
  have h2 := Int.emod_nonneg p2 (by omega : (65 : Int) ≠ 0)
  have h3 := Int.emod_lt_of_pos p2 (by omega : (0 : Int) < 65)
  by_cases h : p2.tmod 65 < 0
  · have h4 := h1.1 h
    rw [h4]
    have : wrap64 (p2 % 65) = p2 % 65 := by unfold wrap64; omega
    rw [this, Int.tmod_eq_emod_of_nonneg h2]
    omega
  · have h4 := h1.2 h
    rw [h4]
    have : wrap64 (p2 % 65 + 65) = p2 % 65 + 65 := by unfold wrap64; omega
    rw [this, Int.tmod_eq_emod_of_nonneg (by omega)]
    omega
theorem disk_setmap {w w2 : World} {col : Nat → Nat} {id gd mb m' : Nat} {v : Value} {d : DK} {f' : Int → Option Wr} (h : DiskV w col id gd mb v d) (hk : Keeps (fun j => j = mb) w w2) (hm : MapAt w2 mb m' f')
    (hf : ∀ i s, f' i = some s → d.safe i = some s ∨ (SV s.A s.b.length s.c ∧ RB w2 s.A s.b ∧ s.b.length = 64 ∧ ∀ ad, s.A = some ad → w.heap.size ≤ ad.block)) :
    Step id w col w2 (paint w col (fun _ => 0)) ∧ DiskV w2 (paint w col (fun _ => 0)) id gd mb v { d with safe := f', m := m' } := by
  have hgl : gd < w.heap.size := (Array.getElem?_eq_some_iff.1 h.obj).1
  have st : Step id w col w2 (paint w col (fun _ => 0)) := Step.mk' (hk.mono fun k _ e => e ▸ h.mcol)
  refine ⟨st, ⟨(paint_old hgl).trans h.hcol, h.nz, (hk.block gd hgl (fun e => h.mne e.symm)).trans h.obj, own_keep h.own fun k hk2 => hk.block k (h.own.lt k hk2).2 (h.blk k hk2).2.1, fun k hk2 => ⟨(h.blk k hk2).1, (h.blk k hk2).2.1, (paint_old (h.own.lt k hk2).2).trans (h.blk k hk2).2.2⟩, hm, h.mne, (paint_old h.map.lt).trans h.mcol, fun i s hs => ?_, fun s hs => ⟨(h.cd s hs).1.step st h.nz, (h.cd s hs).2⟩, h.dom⟩⟩
  rcases hf i s hs with h1 | ⟨h1, h2, h3, h4⟩
  · exact (h.sd i s h1).step st h.nz
  · exact ⟨h1, ⟨h2, fun hp ad e => paint_new (h4 ad e)⟩, h3⟩

def CrashQ (id2 : Nat) (d : DK) (ps : List Int) (w : World) (col : Nat → Nat) (e : Ending) (w' : World) : Prop :=
  ∃ gd2 mb3 f col', e = .returned (.pointer (some ⟨gd2, 0, none⟩)) ∧ Step id2 w col w' col' ∧ DiskAt w' col' id2 gd2 mb3 ⟨d.n, f, [], false, false, 0, 0, d.m + (liveK (pickK ps 0) d.cache d.cache.length).length⟩ ∧
    ∀ i, secB (f i) = crashB (tornK (pickK ps 1) (liveK (pickK ps 0) d.cache d.cache.length).length) (pickK ps 2 % 65).toNat (fun i => secB (d.safe i)) (liveK (pickK ps 0) d.cache d.cache.length) (liveK (pickK ps 0) d.cache d.cache.length).length i

set_option maxRecDepth 100000 in
set_option maxHeartbeats 8000000 in
theorem crash_walk (id id2 gd mb : Nat) (v : Value) (d : DK) (A : Option Addr) (c : Nat) (ps : List Int) (w : World) (col : Nat → Nat) (h : DiskV w col id gd mb v d) (hp2 : ∀ (w' : World) (col' : Nat → Nat), Step id2 w col w' col' → RI w' A ps) (hid : id2 ≠ 0) (hne : id2 ≠ id) (hcl : d.cache.length ≤ 1000000) (hm : d.m + d.cache.length ≤ 1000000000) (hpb : ∀ x ∈ ps, -9223372036854775808 ≤ x ∧ x ≤ 9223372036854775807) :
    Calls Try.prog 20 #[.pointer (some ⟨gd, 0, none⟩), .slice A ps.length c] w (CrashQ id2 d ps w col) := by
  have HD := Lib.hid h
  have HP2 := Lib.hid hp2
  obtain ⟨np, hnp⟩ : ∃ n, n = ps.length := ⟨_, rfl⟩
  have HNP := Lib.hid hnp
  rw [← hnp]
  clear hnp hp2
  go_enter Try.func20, Try.ntmps20
  go_wp2_with fail
  refine (sectors_any gd mb v d w HD.out.obj).mono ?_
  rintro e w' ⟨rfl, rfl⟩
  go_wp2_with fail
  refine (new_any id2 d.n hid w col HD.out.dom).mono ?_
  rintro e w1 ⟨gd2, mb2, c1, rfl, s1, v2, h2⟩
  have HD1 := Lib.hid (HD.out.step s1 hne hid)
  have z1 : w1.cell? ⟨gd, 1, none⟩ = some (.map (some mb)) := by rw [cell_of_row _ gd 1 _ _ _ HD1.out.obj]; rfl
  go_wp2_with fail
  refine (mclone_any mb d.m d.safe w1 HD1.out.map).mono ?_
  rintro e w2 ⟨rfl, hm2, hb2⟩
  have hg2 := heap_below h2.obj hb2
  have hz2 := frozen_of_row _ _ 1 _ _ hg2
  have hy2 : w2.cell? ⟨gd2, 1, none⟩ = some (.map (some mb2)) := by rw [cell_of_row _ gd2 1 _ _ _ hg2]; rfl
  obtain ⟨mb3, hmb3⟩ : ∃ m, m = w1.heap.size := ⟨_, rfl⟩
  rw [← hmb3] at hm2 ⊢
  obtain ⟨s2, h3⟩ := crash_base h2 hm2 hb2 hmb3 (fun i s hs => HD1.out.sd i s hs)
  have HD2 := Lib.hid (HD1.out.step s2 hne hid)
  have HE2 := Lib.hid h3
  have HS2 := Lib.hid (s1.trans s2)
  obtain ⟨A2, cc2, rfl, hfw⟩ := own_FW HD2.out.own
  have HFW := Lib.hid hfw
  have HAC : Hid (∀ ad, A2 = some ad → paint w1 c1 (fun _ => id2) ad.block = id) := Lib.hid (fun ad e => (HD2.out.blk ad.block (by subst e; rfl)).2.2)
  have hc2 : (w2.setCell ⟨gd2, 1, none⟩ (.map (some mb3))).cell? ⟨gd, 2, none⟩ = some (.slice A2 d.cache.length cc2) := by rw [cell_of_row _ gd 2 _ _ _ HD2.out.obj]; rfl
  have HPR : Hid (RI (w2.setCell ⟨gd2, 1, none⟩ (.map (some mb3))) A ps) := Lib.hid (HP2.out _ _ HS2.out)
  clear h2 hm2 hb2 hg2 s1 s2 h3 hfw hmb3
  generalize paint w1 c1 (fun _ => id2) = col0 at *
  obtain ⟨nc, hnc⟩ : ∃ n, n = d.cache.length := ⟨_, rfl⟩
  have HNC := Lib.hid hnc
  rw [← hnc] at hc2 hcl hm
  clear hnc
  go_wp2
  clear hz2 hy2 hc2
  generalize w2.setCell ⟨gd2, 1, none⟩ (.map (some mb3)) = W0 at *
  obtain ⟨p0, hp0⟩ : ∃ p, p = pickK ps 0 := ⟨_, rfl⟩
  have HPK := Lib.hid (fun (W : World) (hW : Below W0.heap.size W0 W) (j : Nat) (hj : j ≤ 1000) => pick_any A c ps j W (HPR.out.below hW) hj)
  rw [← HNP.out] at HPK
  have HP0 := Lib.hid hp0
  clear hp0
  go_loopw [7, 8, 9, 37] (fun u7 u8 u9 u37 w' => ∃ (k q : Nat), k ≤ nc ∧ q ≤ k ∧ u37 = .int .i64 k ∧ Hid (q = (liveK p0 d.cache k).length) ∧ Hid (w'.ownsRow W0.heap.size 94 2 u7 q (rowW (liveK p0 d.cache k))) ∧ Hid (Below W0.heap.size W0 w')) (fun _ _ _ u37 _ => nc - (intOf u37).toNat)
  case atStart => exact ⟨0, 0, Nat.zero_le _, Nat.le_refl _, rfl, Lib.hid rfl, Lib.hid (World.ownsRow_nil _ _ 94 2), Lib.hid (Below.refl _ _)⟩
  case round =>
    obtain ⟨k, q, hk, hqk, rfl, HQ, HO, HB⟩ := hrel
    by_cases hlt : k < nc
    · obtain ⟨s, hs⟩ : ∃ s, s = elB d.cache k := ⟨_, rfl⟩
      have hs2 : d.cache[k]? = some s := by rw [hs, elB, List.getD_eq_getElem?_getD, List.getElem?_eq_getElem (by rw [← HNC.out]; exact hlt)]; rfl
      obtain ⟨gg, rfl, ha0, ha1⟩ := HFW.out.at_ k s hs2
      have hb0 := (HB.out.cell (World.block_lt_of_cell? _ _ ha0)).trans ha0
      have hb1 := (HB.out.cell (World.block_lt_of_cell? _ _ ha1)).trans ha1
      have hbX := bel_alloc (Below.refl wr.heap.size wr) (.cells #[.int .i64 s.at_, .slice s.A s.b.length s.c] 94)
      have HBX := Lib.hid hbX
      have HSE := Lib.hid hs
      have x0 := cell_alloc' wr #[.int .i64 s.at_, .slice s.A s.b.length s.c] 94 0 _ rfl
      have x1 := cell_alloc' wr #[.int .i64 s.at_, .slice s.A s.b.length s.c] 94 1 _ rfl
      clear ha0 ha1 hs hs2 hbX
      go_wp2_with fail
      refine (HPK.out _ (bel_then HB.out HBX.out) 0 (by omega)).mono ?_
      rintro e w' ⟨rfl, rfl⟩
      rw [← HP0.out]
      cases hlive : liveQ p0 k with
      | true =>
        have HLV := Lib.hid hlive
        unfold liveQ at hlive
        obtain ⟨z94, hz94, hzs94⟩ := info94
        go_wp2_with (first | (at_builtin; go_loud (refine wp_app rfl _ _ 77 rfl W0.heap.size 94 z94 2 32 Try.underlying77 hz94 hzs94 (by decide) u7 q (rowW (liveK p0 d.cache k)) rfl (own_keep HO.out fun j hj => (bel_alloc HBX.out _).block j (HO.out.lt j hj).2) _ 1 _ [.int .i64 s.at_, .slice s.A s.b.length s.c] rfl rfl (fun e => by cases e) (fun _ => ⟨_, rfl, fun j u hu => cell_alloc _ _ _ _ _ (by simp) j u (by simpa using hu)⟩) (by intro u hu; simp only [List.mem_cons, List.not_mem_nil, or_false] at hu; rcases hu with rfl | rfl <;> rfl) (by unfold maxLen; omega) (by omega) (bel_then HB.out (bel_alloc HBX.out _)).size ?_); intro v1 w5 ho5 hg5 hv5; have HO5 := Lib.hid ho5; have HB5 := Lib.hid (bel_grown (bel_then HB.out (bel_alloc HBX.out _)) hg5 (fun j e => (HO.out.lt j e).1)); clear ho5 hg5 hv5) | fail)
        go_roundw
        case rel =>
          have e1 : liveK p0 d.cache (k + 1) = liveK p0 d.cache k ++ [s] := by simp only [liveK]; rw [if_pos HLV.out, HSE.out]
          refine ⟨k + 1, q + 1, by omega, by omega, by go_num, Lib.hid ?_, Lib.hid ?_, HB5⟩
          · rw [e1, List.length_append, ← HQ.out]; rfl
          · rw [e1, rowW_append]; exact HO5.out
        case measure => simp [intOf]; omega
      | false =>
        have HLV := Lib.hid hlive
        unfold liveQ at hlive
        go_wp2
        go_roundw
        case rel =>
          have e1 : liveK p0 d.cache (k + 1) = liveK p0 d.cache k := by simp only [liveK]; rw [HLV.out, if_neg (by decide), List.append_nil]
          refine ⟨k + 1, q, by omega, by omega, by go_num, Lib.hid ?_, Lib.hid ?_, Lib.hid (bel_then HB.out HBX.out)⟩
          · rw [e1]; exact HQ.out
          · rw [e1]; exact own_keep HO.out fun j hj => HBX.out.block j (HO.out.lt j hj).2
        case measure => simp [intOf]; omega
    · obtain rfl : k = nc := by omega
      obtain ⟨lv, hlv⟩ : ∃ l, l = liveK p0 d.cache k := ⟨_, rfl⟩
      have hlvm : ∀ s, s ∈ lv → s ∈ d.cache := fun s hs => liveK_mem (by rw [← HNC.out]; exact Nat.le_refl _) (by rw [← hlv]; exact hs)
      rw [← hlv] at HQ HO
      have ho := HO.out
      rw [HQ.out] at ho
      obtain ⟨A7, c7, rfl, hfw7⟩ := own_FW ho
      have HFW7 := Lib.hid hfw7
      have HA7 : Hid (∀ ad, A7 = some ad → paint W0 col0 (fun _ => 0) ad.block = 0) := Lib.hid (fun ad e => paint_new (ho.lt ad.block (by subst e; rfl)).1)
      have HD7 := Lib.hid (HD2.out.grow HB.out (fun _ => 0))
      have HE7 := Lib.hid (HE2.out.grow HB.out (fun _ => 0))
      have HS7 := Lib.hid (HS2.out.grow HB.out (fun _ => 0))
      have HSC : Hid (∀ s, s ∈ lv → Sec wr (paint W0 col0 (fun _ => 0)) s ∧ 0 ≤ s.at_ ∧ s.at_ < d.n) := Lib.hid (fun s hs => HD7.out.cd s (hlvm s hs))
      obtain ⟨n7, hn7⟩ : ∃ n, n = lv.length := ⟨_, rfl⟩
      have HN7 := Lib.hid hn7
      have hn7k : n7 ≤ k := by rw [hn7, ← HQ.out]; exact hqk
      have HLV := Lib.hid hlv
      rw [← hn7]
      clear hn7 ho hfw7 HO HQ hlvm hlv
      go_wp2_with fail
      refine (HPK.out _ HB.out 1 (by omega)).mono ?_
      rintro e w' ⟨rfl, rfl⟩
      obtain ⟨p1, hp1⟩ : ∃ p, p = pickK ps 1 := ⟨_, rfl⟩
      have HP1 := Lib.hid hp1
      rw [← hp1]
      clear hp1
      go_upto_region 14 with fail
      go_cut [62] (fun s62 wx => ∃ bb : Bool, s62 = .bool bb ∧ (bb = true ↔ 0 < p1 ∧ 0 < n7) ∧ wx = wr)
      case first =>
        by_cases h1 : 0 < p1
        · by_cases h2 : 0 < n7
          · go_wp2
            go_meet
            exact ⟨true, rfl, ⟨fun _ => ⟨h1, h2⟩, fun _ => rfl⟩, rfl⟩
          · have h3 : decide (0 < (n7 : Int)) = false := by simp; omega
            go_wp2
            go_meet
            exact ⟨false, rfl, ⟨fun h => (by cases h), fun h => absurd h.2 h2⟩, rfl⟩
        · have h3 : decide (0 < p1) = false := by simp; omega
          go_wp2
          go_meet
          exact ⟨false, rfl, ⟨fun h => (by cases h), fun h => absurd h.1 (by omega)⟩, rfl⟩
      case rest =>
        obtain ⟨bb, rfl, hbb, rfl⟩ := hcut
        have HBB := Lib.hid hbb
        clear hbb
        go_upto_if 62 with fail
        go_cut [10] (fun s10 wx => s10 = .int .i64 (tornK p1 n7) ∧ wx = wc)
        case first =>
          cases bb with
          | true =>
            have h12 := HBB.out.1 rfl
            obtain ⟨h1, h2⟩ := h12
            have h3 : p1.tmod (n7 : Int) = p1 % (n7 : Int) := Int.tmod_eq_emod_of_nonneg (by omega)
            go_wp2
            go_meet
            refine ⟨int_eq ?_, rfl⟩
            unfold tornK
            rw [if_pos ⟨h1, h2⟩]
          | false =>
            have h12 : ¬ (0 < p1 ∧ 0 < n7) := fun h => by have := HBB.out.2 h; cases this
            have H12 := Lib.hid h12
            clear h12
            go_wp2
            go_meet
            refine ⟨int_eq ?_, rfl⟩
            unfold tornK
            rw [if_neg H12.out]
        case rest =>
         obtain ⟨rfl, rfl⟩ := hcut
         obtain ⟨tn, htn⟩ : ∃ t, t = tornK p1 n7 := ⟨_, rfl⟩
         have HTN := Lib.hid htn
         rw [← htn]
         clear htn
         go_wp2_with fail
         refine (HPK.out _ HB.out 2 (by omega)).mono ?_
         rintro e w' ⟨rfl, rfl⟩
         obtain ⟨p2, hp2⟩ : ∃ p, p = pickK ps 2 := ⟨_, rfl⟩
         have HP2' := Lib.hid hp2
         rw [← hp2]
         clear hp2
         go_wp2
         obtain ⟨t, ht⟩ := Int.eq_ofNat_of_zero_le (Int.emod_nonneg p2 (by omega : (65 : Int) ≠ 0))
         have ht64 : t ≤ 64 := by have := Int.emod_lt_of_pos p2 (by omega : (0 : Int) < 65); omega
         have HTT := Lib.hid ht
         rw [t_round, ht]
         clear ht
         go_loopw [13, 14, 15, 74] (fun u13 u14 u15 u74 w' => ∃ (m : Nat) (f : Int → Option Wr) (col' : Nat → Nat), m ≤ n7 ∧ u74 = .int .i64 m ∧ Hid (Step id2 wc (paint W0 col0 (fun _ => 0)) w' col') ∧ Hid (DiskV w' col' id2 gd2 mb3 v2 ⟨d.n, f, [], false, false, 0, 0, d.m + m⟩) ∧ Hid (∀ i, secB (f i) = crashB tn t (fun i => secB (d.safe i)) lv m i)) (fun _ _ _ u74 _ => n7 - (intOf u74).toNat)
         case atStart => exact ⟨0, d.safe, _, Nat.zero_le _, rfl, Lib.hid (Step.refl _ _ _), HE7, Lib.hid (fun i => rfl)⟩
         case round =>
           obtain ⟨m, f, colr, hmn, rfl, HST, HE, HC⟩ := hrel
           by_cases hlt2 : m < n7
           · obtain ⟨s, hs⟩ : ∃ s, s = elB lv m := ⟨_, rfl⟩
             have hs2 : lv[m]? = some s := by rw [hs, elB, List.getD_eq_getElem?_getD, List.getElem?_eq_getElem (by rw [← HN7.out]; exact hlt2)]; rfl
             obtain ⟨hsec, hat0, hat1⟩ := HSC.out s (List.mem_of_getElem? hs2)
             have hsecr := hsec.step HST.out hid
             have hdom := HD.out.dom
             obtain ⟨g7, e7, ha0, ha1⟩ := HFW7.out.at_ m s hs2
             have hg7l := World.block_lt_of_cell? _ _ ha0
             have hkb := HST.out.keeps.block g7 hg7l (by rw [HA7.out _ e7]; exact fun e => hid e.symm)
             have hb0 := (World.cell?_of_block (a := ⟨g7, m * 2, none⟩) hkb).trans ha0
             have hb1 := (World.cell?_of_block (a := ⟨g7, m * 2 + 1, none⟩) hkb).trans ha1
             subst e7
             have hs64 : s.b.length = 64 := hsec.2.2
             rw [hs64] at hb1
             obtain ⟨X1, hX1⟩ : ∃ X, X = wr.alloc (.cells #[.int .i64 s.at_, .slice s.A 64 s.c] 94) := ⟨_, rfl⟩
             have hbX : Below wr.heap.size wr X1 := by rw [hX1]; exact bel_alloc (Below.refl _ _) _
             have hnX : X1.heap[wr.heap.size]? = some (.cells #[.int .i64 s.at_, .slice s.A 64 s.c] 94 (0, 0)) := by rw [hX1]; exact heap_alloc_new wr _
             have x0 : X1.cell? ⟨wr.heap.size, 0, none⟩ = some (.int .i64 s.at_) := by rw [cell_of_row _ _ 0 _ _ _ hnX]; rfl
             have x1 : X1.cell? ⟨wr.heap.size, 1, none⟩ = some (.slice s.A 64 s.c) := by rw [cell_of_row _ _ 1 _ _ _ hnX]; rfl
             have HBX := Lib.hid hbX
             have HNX := Lib.hid hnX
             have HSE := Lib.hid hs
             have HSEC0 := Lib.hid hsecr
             have HS64 := Lib.hid hs64
             have HAT : Hid (-9223372036854775808 ≤ s.at_ ∧ s.at_ ≤ 9223372036854775807) := Lib.hid (by omega)
             have hwl := (Array.getElem?_eq_some_iff.1 hnX).1
             have HWL := Lib.hid hwl
             rw [hX1] at x0 x1
             clear hsec hat0 hat1 hdom ha0 ha1 hg7l hkb hs2 hs hs64 hbX hnX hsecr hwl
             go_wp2_with fail
             rw [← hX1]
             rw [← hX1] at x0 x1
             clear hX1 hb0 hb1
             refine (clone_at s.A s.c 64 s.b X1 HS64.out.symm (HSEC0.out.2.1.read.below HBX.out) HSEC0.out.1 (by have := HS64.out; omega)).mono ?_
             rintro e X2 ⟨vb, rfl, hob, hbel⟩
             obtain ⟨Ab, cb, rfl, hsvb, hrbb⟩ := hob.reads
             rw [HS64.out] at hsvb hob ⊢
             have HOB := Lib.hid hob
             have HSVB := Lib.hid hsvb
             have HRBB := Lib.hid hrbb
             have HBEL := Lib.hid hbel
             clear hob hsvb hrbb hbel x0 x1
             go_upto_if 84 with fail
             go_cut [15] (fun s15 wx => ∃ (A' : Option Addr) (c' : Nat) (bs : List UInt8), s15 = .slice A' 64 c' ∧ Hid (SV A' 64 c') ∧ Hid (RB wx A' bs) ∧ Hid (bs.length = 64) ∧ Hid (bs = if (m : Int) = tn then s.b.take t ++ (secB (f s.at_)).drop t else s.b) ∧ Hid (∀ ad, A' = some ad → wr.heap.size ≤ ad.block) ∧ Hid (Below X1.heap.size X1 wx))
             case first =>
               by_cases hmt : (m : Int) = tn
               · have hmt2 : ((m : Int) == tn) = true := by simp [hmt]
                 have HMT := Lib.hid hmt
                 obtain ⟨V, hV⟩ : ∃ V, V = X2.drew := ⟨_, rfl⟩
                 have hb2V : Below X1.heap.size X1 V := by rw [hV]; exact bel_drew HBEL.out
                 have hbwV : Below wr.heap.size wr V := HBX.out.trans (hb2V.mono HBX.out.size)
                 have z1 : V.cell? ⟨gd2, 1, none⟩ = some (.map (some mb3)) := by rw [cell_of_row _ gd2 1 _ _ _ (heap_below HE.out.obj hbwV)]; rfl
                 have z3 : V.cell? ⟨wr.heap.size, 0, none⟩ = some (.int .i64 s.at_) := by rw [cell_of_row _ wr.heap.size 0 _ _ _ (heap_below HNX.out hb2V)]; rfl
                 have HZ1 := Lib.hid z1
                 have HZ3 := Lib.hid z3
                 have hsecV := sector_any mb3 (d.m + m) f s.at_ V (HE.out.map.keep (hbwV.block mb3 HE.out.map.lt)) HAT.out (fun q hq => ⟨(HE.out.sd s.at_ q hq).1, (HE.out.sd s.at_ q hq).2.1.read.below hbwV, (HE.out.sd s.at_ q hq).2.2⟩)
                 have hl64 : (secB (f s.at_)).length = 64 := by
                   cases hf : f s.at_ with
                   | none => simp [secB]
                   | some q => exact (HE.out.sd s.at_ q hf).2.2
                 have hrbV : RB V Ab s.b := by rw [hV]; exact HRBB.out.drew
                 have haft : ∀ (X3 : World) (g9 : Nat), OB X3 V.heap.size 5 (.slice (some ⟨g9, 0, none⟩) 64 64) (secB (f s.at_)) → Below V.heap.size V X3 → ∃ a96, (if 64 = t then (some ⟨g9, 0, none⟩ : Option Addr) else some ⟨g9, t, none⟩) = some a96 ∧
                     Calls Try.prog 47 #[.slice (some ⟨X3.heap.size, 0, none⟩) 2 2] (X3.alloc (.cells #[.slice Ab t cb, .slice (some a96) (64 - t) (64 - t)] 22)) fun e w' => ∃ A5 c5, e = .returned (.slice A5 64 c5) ∧ SV A5 64 c5 ∧ RB w' A5 (s.b.take t ++ (secB (f s.at_)).drop t) ∧ (∀ ad, A5 = some ad → V.heap.size ≤ ad.block) ∧ Below (X3.alloc (.cells #[.slice Ab t cb, .slice (some a96) (64 - t) (64 - t)] 22)).heap.size (X3.alloc (.cells #[.slice Ab t cb, .slice (some a96) (64 - t) (64 - t)] 22)) w' := by
                   intro X3 g9 ho hb
                   obtain ⟨A9, c9, e9, -, hrb9⟩ := ho.reads
                   rw [hl64] at e9
                   cases e9
                   have hl1 : (s.b.take t).length = t := by rw [List.length_take, HS64.out]; omega
                   have hl2 : ((secB (f s.at_)).drop t).length = 64 - t := by rw [List.length_drop, hl64]
                   have hr1 : RB X3 Ab (s.b.take t) := by
                     have h1 := (hrbV.below hb).cut (A' := Ab) 0 t (by rw [HS64.out]; omega) (fun _ ad e => by rw [e]; unfold Addr.add; simp)
                     rw [List.drop_zero] at h1
                     exact h1
                   have fin : ∀ a96 : Addr, (0 < 64 - t → a96 = (⟨g9, 0, none⟩ : Addr).add t) → Calls Try.prog 47 #[.slice (some ⟨X3.heap.size, 0, none⟩) 2 2] (X3.alloc (.cells #[.slice Ab t cb, .slice (some a96) (64 - t) (64 - t)] 22)) fun e w' => ∃ A5 c5, e = .returned (.slice A5 64 c5) ∧ SV A5 64 c5 ∧ RB w' A5 (s.b.take t ++ (secB (f s.at_)).drop t) ∧ (∀ ad, A5 = some ad → V.heap.size ≤ ad.block) ∧ Below (X3.alloc (.cells #[.slice Ab t cb, .slice (some a96) (64 - t) (64 - t)] 22)).heap.size (X3.alloc (.cells #[.slice Ab t cb, .slice (some a96) (64 - t) (64 - t)] 22)) w' := by
                     intro a96 ha
                     have hr2 : RB X3 (some a96) ((secB (f s.at_)).drop t) := by
                       have h1 := hrb9.cut (A' := some a96) t (64 - t) (by rw [hl64]; omega) (fun hp ad e => by cases e; rw [ha hp])
                       rw [List.take_of_length_le (by rw [hl2]; omega)] at h1
                       exact h1
                     have hsv := HSVB.out
                     have hrl := RL.two 22 hr1 (c := cb) (show SV Ab (s.b.take t).length cb from ⟨by rw [hl1]; have := hsv.1; omega, hsv.2⟩) hr2 (c2 := 64 - t) (show SV (some a96) ((secB (f s.at_)).drop t).length (64 - t) from ⟨by rw [hl2]; omega, fun e => by cases e⟩) (n := X3.heap.size) rfl
                     rw [hl1, hl2] at hrl
                     refine (concat_any _ 2 [s.b.take t, (secB (f s.at_)).drop t] _ hrl (by simp) (by simp [hl1, hl2]; omega)).mono ?_
                     rintro e w' ⟨v5, rfl, ho5, hb5⟩
                     have hfl : [s.b.take t, (secB (f s.at_)).drop t].flatten = s.b.take t ++ (secB (f s.at_)).drop t := by simp
                     rw [hfl] at ho5
                     obtain ⟨A5, c5, rfl, hsv5, hrb5⟩ := ho5.reads
                     have hl5 : (s.b.take t ++ (secB (f s.at_)).drop t).length = 64 := by rw [List.length_append, hl1, hl2]; omega
                     rw [hl5] at hsv5 ho5 ⊢
                     refine ⟨A5, c5, rfl, hsv5, hrb5, fun ad e => ?_, hb5⟩
                     have h1 := ho5.base_ ad.block (by subst e; rfl)
                     have h2 := hb.size
                     simp at h1
                     omega
                   by_cases h64 : 64 = t
                   · exact ⟨_, if_pos h64, fin _ (fun hp => by omega)⟩
                   · refine ⟨_, if_neg h64, fin _ (fun _ => by rw [add0])⟩
                 have HSEC := Lib.hid hsecV
                 have HAFT := Lib.hid haft
                 have HB2V := Lib.hid hb2V
                 have HL64 := Lib.hid hl64
                 have b1 : t ≤ cb := by have := HSVB.out.1; omega
                 have b2 : (t : Int) ≤ 64 := by omega
                 clear hmt hsecV haft hb2V hbwV hl64 hrbV
                 go_wp2_with fail
                 refine region_norm ?_
                 refine region_const (G := G20a) (S := fun X => X.cell? ⟨gd2, 1, none⟩ = some (.map (some mb3)) ∧ X.cell? ⟨wr.heap.size, 0, none⟩ = some (.int .i64 s.at_)) (n := 15) (by kernel_rfl) (by kernel_rfl) rfl (by rw [← hV]; exact ⟨z1, z3⟩) (fun HG hS0 => ?_)
                 have Gns := Gns20a
                 rw [← hV]
                 rw [← hV] at hS0
                 clear hV
                 simp only [Array.replicate_succ, Array.replicate_zero, List.push_toArray, List.nil_append, List.cons_append]
                 refine wpAnyH_take (i := 0) (v := ?_) (o_at HG 0 rfl) Gns (by kernel_rfl) (by kernel_rfl) (fun _ _ _ h => h) (Or.inl ⟨(by kernel_rfl), ?_⟩) (by first | trivial | assumption) ?_
                 rotate_left
                 · (intro w hSw; (try dsimp only at hSw); go_simp; try with_reducible rfl)
                 try simp only [Act.put, List.getElem_toArray, List.getElem_cons_zero, List.getElem_cons_succ, List.setIfInBounds_toArray, List.set_cons_zero, List.set_cons_succ]
                 refine wpAnyH_take (i := 1) (v := ?_) (o_at HG 1 rfl) Gns (by kernel_rfl) (by kernel_rfl) (fun _ _ _ h => h) (Or.inl ⟨(by kernel_rfl), ?_⟩) (by first | trivial | assumption) ?_
                 rotate_left
                 · (intro w hSw; (try dsimp only at hSw); go_simp; try with_reducible rfl)
                 try simp only [Act.put, List.getElem_toArray, List.getElem_cons_zero, List.getElem_cons_succ, List.setIfInBounds_toArray, List.set_cons_zero, List.set_cons_succ]
                 refine wpAnyH_take (i := 2) (v := ?_) (o_at HG 2 rfl) Gns (by kernel_rfl) (by kernel_rfl) (fun _ _ _ h => h) (Or.inl ⟨(by kernel_rfl), ?_⟩) (by first | trivial | assumption) ?_
                 rotate_left
                 · (intro w hSw; (try dsimp only at hSw); go_simp; try with_reducible rfl)
                 try simp only [Act.put, List.getElem_toArray, List.getElem_cons_zero, List.getElem_cons_succ, List.setIfInBounds_toArray, List.set_cons_zero, List.set_cons_succ]
                 refine wpAnyH_take (i := 3) (v := ?_) (o_at HG 3 rfl) Gns (by kernel_rfl) (by kernel_rfl) (fun _ _ _ h => h) (Or.inl ⟨(by kernel_rfl), ?_⟩) (by first | trivial | assumption) ?_
                 rotate_left
                 · (intro w hSw; (try dsimp only at hSw); go_simp; try with_reducible rfl)
                 try simp only [Act.put, List.getElem_toArray, List.getElem_cons_zero, List.getElem_cons_succ, List.setIfInBounds_toArray, List.set_cons_zero, List.set_cons_succ]
                 refine wpAnyH_take (i := 4) (v := ?_) (o_at HG 4 rfl) Gns (by kernel_rfl) (by kernel_rfl) (fun _ _ _ h => h) (Or.inl ⟨(by kernel_rfl), ?_⟩) (by first | trivial | assumption) ?_
                 rotate_left
                 · (intro w hSw; (try dsimp only at hSw); go_simp; try with_reducible rfl)
                 try simp only [Act.put, List.getElem_toArray, List.getElem_cons_zero, List.getElem_cons_succ, List.setIfInBounds_toArray, List.set_cons_zero, List.set_cons_succ]
                 refine wpAnyH_take (i := 5) (v := ?_) (o_at HG 5 rfl) Gns (by kernel_rfl) (by kernel_rfl) (fun _ _ _ h => h) (Or.inl ⟨(by kernel_rfl), ?_⟩) (by first | trivial | assumption) ?_
                 rotate_left
                 · (intro w hSw; (try dsimp only at hSw); go_simp; try with_reducible rfl)
                 try simp only [Act.put, List.getElem_toArray, List.getElem_cons_zero, List.getElem_cons_succ, List.setIfInBounds_toArray, List.set_cons_zero, List.set_cons_succ]
                 refine wpAnyH_take (i := 6) (v := ?_) (o_at HG 6 rfl) Gns (by kernel_rfl) (by kernel_rfl) (fun _ _ _ h => h) (Or.inl ⟨(by kernel_rfl), ?_⟩) (by first | trivial | assumption) ?_
                 rotate_left
                 · (intro w hSw; (try dsimp only at hSw); go_simp; try with_reducible rfl)
                 try simp only [Act.put, List.getElem_toArray, List.getElem_cons_zero, List.getElem_cons_succ, List.setIfInBounds_toArray, List.set_cons_zero, List.set_cons_succ]
                 refine wpAnyH_take (i := 7) (v := ?_) (o_at HG 7 rfl) Gns (by kernel_rfl) (by kernel_rfl) (fun _ _ _ h => h) (Or.inl ⟨(by kernel_rfl), ?_⟩) (by first | trivial | assumption) ?_
                 rotate_left
                 · (intro w hSw; (try dsimp only at hSw); go_simp; try with_reducible rfl)
                 try simp only [Act.put, List.getElem_toArray, List.getElem_cons_zero, List.getElem_cons_succ, List.setIfInBounds_toArray, List.set_cons_zero, List.set_cons_succ]
                 refine wpAnyH_take (i := 8) (v := ?_) (o_at HG 8 rfl) Gns (by kernel_rfl) (by kernel_rfl) (fun _ _ _ h => h) (Or.inl ⟨(by kernel_rfl), ?_⟩) (by first | trivial | assumption) ?_
                 rotate_left
                 · (intro w hSw; (try dsimp only at hSw); go_simp; try with_reducible rfl)
                 try simp only [Act.put, List.getElem_toArray, List.getElem_cons_zero, List.getElem_cons_succ, List.setIfInBounds_toArray, List.set_cons_zero, List.set_cons_succ]
                 refine wpAnyH_take (i := 10) (v := ?_) (o_at HG 10 rfl) Gns (by kernel_rfl) (by kernel_rfl) (fun _ _ _ h => h) (Or.inl ⟨(by kernel_rfl), ?_⟩) (by first | trivial | assumption) ?_
                 rotate_left
                 · (intro w hSw; (try dsimp only at hSw); go_simp; try with_reducible rfl)
                 try simp only [Act.put, List.getElem_toArray, List.getElem_cons_zero, List.getElem_cons_succ, List.setIfInBounds_toArray, List.set_cons_zero, List.set_cons_succ]
                 refine wpAnyH_ready (rs := [9]) (by kernel_rfl) (by simp) ?_
                 refine AllReadyH.cons (o_at HG 9 rfl) ?_ (AllReadyH.nil)
                 · intro K' hK
                   rw [if_pos (by kernel_rfl)]
                   go_simp
                   (with_reducible refine HSEC.out.mono ?_)
                   rintro e X3 ⟨g9, rfl, ho9, hb9⟩
                   have hfact := HAFT.out X3 g9 ho9 hb9
                   obtain ⟨a96, hA96, hfa⟩ := hfact
                   have HFA := Lib.hid hfa
                   clear hfa
                   refine hK.out _ _ ⟨(hb9.cell (World.block_lt_of_cell? _ _ HZ1.out)).trans HZ1.out, (hb9.cell (World.block_lt_of_cell? _ _ HZ3.out)).trans HZ3.out⟩ (fun hS1 => ?_)
                   have HB9 := Lib.hid hb9
                   clear ho9 hb9
                   try simp only [Act.put, List.getElem_toArray, List.getElem_cons_zero, List.getElem_cons_succ, List.setIfInBounds_toArray, List.set_cons_zero, List.set_cons_succ]
                   refine wpAnyH_take (i := 11) (v := ?_) (o_at HG 11 rfl) Gns (by kernel_rfl) (by kernel_rfl) (fun _ _ _ h => h) (Or.inl ⟨(by kernel_rfl), ?_⟩) (by first | trivial | assumption) ?_
                   rotate_left
                   · (intro w hSw; (try dsimp only at hSw); go_simp; try with_reducible rfl)
                   try simp only [Act.put, List.getElem_toArray, List.getElem_cons_zero, List.getElem_cons_succ, List.setIfInBounds_toArray, List.set_cons_zero, List.set_cons_succ]
                   refine wpAnyH_ready (rs := [12]) (by kernel_rfl) (by simp) ?_
                   refine AllReadyH.cons (o_at HG 12 rfl) ?_ (AllReadyH.nil)
                   · intro K' hK
                     rw [if_pos (by kernel_rfl)]
                     go_simp
                     have hb10 : Below V.heap.size V (X3.alloc (.cells #[.slice Ab t cb, .slice (some a96) (64 - t) (64 - t)] 22)) := bel_then HB9.out (bel_alloc (Below.refl _ _) _)
                     refine hK.out _ _ ⟨(hb10.cell (World.block_lt_of_cell? _ _ HZ1.out)).trans HZ1.out, (hb10.cell (World.block_lt_of_cell? _ _ HZ3.out)).trans HZ3.out⟩ (fun hS2 => ?_)
                     have HB10 := Lib.hid hb10
                     clear hb10
                     try simp only [Act.put, List.getElem_toArray, List.getElem_cons_zero, List.getElem_cons_succ, List.setIfInBounds_toArray, List.set_cons_zero, List.set_cons_succ]
                     refine wpAnyH_ready (rs := [13]) (by kernel_rfl) (by simp) ?_
                     refine AllReadyH.cons (o_at HG 13 rfl) ?_ (AllReadyH.nil)
                     · intro K' hK
                       rw [if_pos (by kernel_rfl)]
                       go_simp
                       (with_reducible refine HFA.out.mono ?_)
                       rintro e X5 ⟨A5, c5, rfl, hsv5, hrb5, hfr5, hb5⟩
                       have hb11 := bel_then HB10.out hb5
                       refine hK.out _ _ ⟨(hb11.cell (World.block_lt_of_cell? _ _ HZ1.out)).trans HZ1.out, (hb11.cell (World.block_lt_of_cell? _ _ HZ3.out)).trans HZ3.out⟩ (fun hS3 => ?_)
                       have HB11 := Lib.hid hb11
                       have HSV5 := Lib.hid hsv5
                       have HRB5 := Lib.hid hrb5
                       have HFR5 := Lib.hid hfr5
                       clear hb11 hsv5 hrb5 hfr5 hb5
                       try simp only [Act.put, List.getElem_toArray, List.getElem_cons_zero, List.getElem_cons_succ, List.setIfInBounds_toArray, List.set_cons_zero, List.set_cons_succ]
                       refine wpAnyH_take (i := 14) (v := ?_) (o_at HG 14 rfl) Gns (by kernel_rfl) (by kernel_rfl) (fun _ _ _ h => h) (Or.inl ⟨(by kernel_rfl), ?_⟩) (by first | trivial | assumption) ?_
                       rotate_left
                       · (intro w hSw; (try dsimp only at hSw); go_simp; try with_reducible rfl)
                       try simp only [Act.put, List.getElem_toArray, List.getElem_cons_zero, List.getElem_cons_succ, List.setIfInBounds_toArray, List.set_cons_zero, List.set_cons_succ]
                       refine wpAnyH_done (by kernel_rfl) ?_ _
                       simp only [normOnly]
                       have hbl : (s.b.take t ++ (secB (f s.at_)).drop t).length = 64 := by rw [List.length_append, List.length_take, List.length_drop, HS64.out, HL64.out]; omega
                       have hfr : ∀ ad, A5 = some ad → wr.heap.size ≤ ad.block := fun ad e => by have h1 := HFR5.out ad e; have h2 := HB2V.out.size; have h3 := HBX.out.size; omega
                       have HEND : Hid (SV A5 64 c5 ∧ RB X5 A5 (s.b.take t ++ (secB (f s.at_)).drop t) ∧ (s.b.take t ++ (secB (f s.at_)).drop t).length = 64 ∧ (∀ ad, A5 = some ad → wr.heap.size ≤ ad.block) ∧ Below X1.heap.size X1 X5) := Lib.hid ⟨HSV5.out, HRB5.out, hbl, hfr, bel_then HB2V.out HB11.out⟩
                       clear hbl hfr hS0 z1 z3 hS1 hS2 hS3
                       go_wp2
                       go_meet
                       exact ⟨A5, c5, _, rfl, Lib.hid HEND.out.1, Lib.hid HEND.out.2.1, Lib.hid HEND.out.2.2.1, Lib.hid (by rw [if_pos HMT.out]), Lib.hid HEND.out.2.2.2.1, Lib.hid HEND.out.2.2.2.2⟩
               · have hmt2 : ((m : Int) == tn) = false := by simp [hmt]
                 have HMT := Lib.hid hmt
                 clear hmt
                 go_wp2
                 go_meet
                 exact ⟨Ab, cb, s.b, rfl, HSVB, HRBB, HS64, Lib.hid (by rw [if_neg HMT.out]), Lib.hid (fun ad e => by have := HOB.out.base_ ad.block (by subst e; rfl); have := HBX.out.size; omega), HBEL⟩
             case rest =>
               obtain ⟨A', c', bs, rfl, HSVN, HRBN, HLN, HBN, HFN, HBWX⟩ := hcut
               obtain ⟨V, hV⟩ : ∃ V, V = wc.drew := ⟨_, rfl⟩
               have hbV : Below X1.heap.size X1 V := by rw [hV]; exact bel_drew HBWX.out
               have hbwV : Below wr.heap.size wr V := HBX.out.trans (hbV.mono HBX.out.size)
               have z1 : V.cell? ⟨gd2, 1, none⟩ = some (.map (some mb3)) := by rw [cell_of_row _ gd2 1 _ _ _ (heap_below HE.out.obj hbwV)]; rfl
               have z3 : V.cell? ⟨wr.heap.size, 0, none⟩ = some (.int .i64 s.at_) := by rw [cell_of_row _ wr.heap.size 0 _ _ _ (heap_below HNX.out hbV)]; rfl
               have hmV : MapAt V mb3 (d.m + m) f := HE.out.map.keep (hbwV.block mb3 HE.out.map.lt)
               obtain ⟨w2, hrun, hm2, hg2⟩ := hmV.update HAT.out (by omega) ⟨s.at_, bs, A', c'⟩
               simp only [HLN.out] at hrun
               have hne1 : mb3 ≠ gd2 := HE.out.mne
               have hgdl : gd2 < V.heap.size := World.block_lt_of_cell? V _ z1
               have hfrl : wr.heap.size < V.heap.size := World.block_lt_of_cell? V _ z3
               have hml := HE.out.map.lt
               have HS2 : Hid (w2.cell? ⟨gd2, 1, none⟩ = some (.map (some mb3)) ∧ w2.cell? ⟨wr.heap.size, 0, none⟩ = some (.int .i64 s.at_)) := Lib.hid ⟨(World.cell?_of_block (a := ⟨gd2, 1, none⟩) (hg2.block gd2 hgdl (fun e => hne1 (Option.some.inj e).symm))).trans z1, (World.cell?_of_block (a := ⟨wr.heap.size, 0, none⟩) (hg2.block wr.heap.size hfrl (fun e => by have := Option.some.inj e; omega))).trans z3⟩
               have hrb2 : RB w2 A' bs := by
                 have hrbV : RB V A' bs := by rw [hV]; exact HRBN.out.drew
                 exact hrbV.keep fun hp ad e => hg2.block _ (hrbV.lt hp ad e) (fun e2 => by have := Option.some.inj e2; have := HFN.out ad e; omega)
               obtain ⟨st3, hd3⟩ := disk_setmap (m' := d.m + (m + 1)) (f' := upd f s.at_ ⟨s.at_, bs, A', c'⟩) HE.out (((Keeps.refl _ wr).below hbwV).grown hg2 (fun j e => .inl (Option.some.inj e).symm)) (hm2.mono (by omega)) (fun i q hq => by
                 unfold upd at hq
                 split at hq
                 · cases hq
                   exact .inr ⟨by show SV A' bs.length c'; rw [HLN.out]; exact HSVN.out, hrb2, HLN.out, HFN.out⟩
                 · exact .inl hq)
               have HST3 := Lib.hid (HST.out.trans st3)
               have HE3 := Lib.hid hd3
               have HC3 : Hid (∀ i, secB (upd f s.at_ ⟨s.at_, bs, A', c'⟩ i) = crashB tn t (fun i => secB (d.safe i)) lv (m + 1) i) := Lib.hid (fun i => by
                 simp only [crashB]
                 rw [← HSE.out]
                 by_cases hi : i = s.at_
                 · rw [if_pos hi]
                   unfold upd
                   rw [if_pos hi]
                   show bs = _
                   rw [HBN.out, HC.out]
                 · rw [if_neg hi]
                   unfold upd
                   rw [if_neg hi]
                   exact HC.out i)
               clear hmV hm2 hg2 hrb2 st3 hd3 hbV hbwV hgdl hfrl hml hne1
               go_upto_region 23 with fail
               refine region_const (G := G20b) (S := fun X => X.cell? ⟨gd2, 1, none⟩ = some (.map (some mb3)) ∧ X.cell? ⟨wr.heap.size, 0, none⟩ = some (.int .i64 s.at_)) (n := 8) (by kernel_rfl) (by kernel_rfl) rfl (by rw [← hV]; exact ⟨z1, z3⟩) (fun HG hS0 => ?_)
               have Gns := Gns20b
               rw [← hV]
               rw [← hV] at hS0
               clear hV
               simp only [Array.replicate_succ, Array.replicate_zero, List.push_toArray, List.nil_append, List.cons_append]
               refine wpAnyH_take (i := 0) (v := ?_) (o_at HG 0 rfl) Gns (by kernel_rfl) (by kernel_rfl) (fun _ _ _ h => h) (Or.inl ⟨(by kernel_rfl), ?_⟩) (by first | trivial | assumption) ?_
               rotate_left
               · (intro w hSw; (try dsimp only at hSw); go_simp; try with_reducible rfl)
               try simp only [Act.put, List.getElem_toArray, List.getElem_cons_zero, List.getElem_cons_succ, List.setIfInBounds_toArray, List.set_cons_zero, List.set_cons_succ]
               refine wpAnyH_take (i := 1) (v := ?_) (o_at HG 1 rfl) Gns (by kernel_rfl) (by kernel_rfl) (fun _ _ _ h => h) (Or.inl ⟨(by kernel_rfl), ?_⟩) (by first | trivial | assumption) ?_
               rotate_left
               · (intro w hSw; (try dsimp only at hSw); go_simp; try with_reducible rfl)
               try simp only [Act.put, List.getElem_toArray, List.getElem_cons_zero, List.getElem_cons_succ, List.setIfInBounds_toArray, List.set_cons_zero, List.set_cons_succ]
               refine wpAnyH_take (i := 2) (v := ?_) (o_at HG 2 rfl) Gns (by kernel_rfl) (by kernel_rfl) (fun _ _ _ h => h) (Or.inl ⟨(by kernel_rfl), ?_⟩) (by first | trivial | assumption) ?_
               rotate_left
               · (intro w hSw; (try dsimp only at hSw); go_simp; try with_reducible rfl)
               try simp only [Act.put, List.getElem_toArray, List.getElem_cons_zero, List.getElem_cons_succ, List.setIfInBounds_toArray, List.set_cons_zero, List.set_cons_succ]
               refine wpAnyH_take (i := 3) (v := ?_) (o_at HG 3 rfl) Gns (by kernel_rfl) (by kernel_rfl) (fun _ _ _ h => h) (Or.inl ⟨(by kernel_rfl), ?_⟩) (by first | trivial | assumption) ?_
               rotate_left
               · (intro w hSw; (try dsimp only at hSw); go_simp; try with_reducible rfl)
               try simp only [Act.put, List.getElem_toArray, List.getElem_cons_zero, List.getElem_cons_succ, List.setIfInBounds_toArray, List.set_cons_zero, List.set_cons_succ]
               refine wpAnyH_take (i := 4) (v := ?_) (o_at HG 4 rfl) Gns (by kernel_rfl) (by kernel_rfl) (fun _ _ _ h => h) (Or.inl ⟨(by kernel_rfl), ?_⟩) (by first | trivial | assumption) ?_
               rotate_left
               · (intro w hSw; (try dsimp only at hSw); go_simp; try with_reducible rfl)
               try simp only [Act.put, List.getElem_toArray, List.getElem_cons_zero, List.getElem_cons_succ, List.setIfInBounds_toArray, List.set_cons_zero, List.set_cons_succ]
               refine wpAnyH_take (i := 5) (v := ?_) (o_at HG 5 rfl) Gns (by kernel_rfl) (by kernel_rfl) (fun _ _ _ h => h) (Or.inl ⟨(by kernel_rfl), ?_⟩) (by first | trivial | assumption) ?_
               rotate_left
               · (intro w hSw; (try dsimp only at hSw); go_simp; try with_reducible rfl)
               try simp only [Act.put, List.getElem_toArray, List.getElem_cons_zero, List.getElem_cons_succ, List.setIfInBounds_toArray, List.set_cons_zero, List.set_cons_succ]
               refine wpAnyH_take (i := 6) (v := ?_) (o_at HG 6 rfl) Gns (by kernel_rfl) (by kernel_rfl) (fun _ _ _ h => h) (Or.inl ⟨(by kernel_rfl), ?_⟩) (by first | trivial | assumption) ?_
               rotate_left
               · (intro w hSw; (try dsimp only at hSw); go_simp; try with_reducible rfl)
               try simp only [Act.put, List.getElem_toArray, List.getElem_cons_zero, List.getElem_cons_succ, List.setIfInBounds_toArray, List.set_cons_zero, List.set_cons_succ]
               refine wpAnyH_ready (rs := [7]) (by kernel_rfl) (by simp) ?_
               refine AllReadyH.cons (o_at HG 7 rfl) ?_ (AllReadyH.nil)
               · intro K' hK
                 rw [if_pos (by kernel_rfl)]
                 go_simp
                 refine hK.out _ _ HS2.out (fun _ => ?_)
                 try simp only [Act.put, List.getElem_toArray, List.getElem_cons_zero, List.getElem_cons_succ, List.setIfInBounds_toArray, List.set_cons_zero, List.set_cons_succ]
                 refine wpAnyH_done (by kernel_rfl) ?_ _
                 clear hS0 hrun z1 z3
                 go_wp2
                 go_roundw
                 case rel => exact ⟨m + 1, _, _, by omega, by go_num, HST3, HE3, HC3⟩
                 case measure => simp [intOf]; omega
           · obtain rfl : m = n7 := by omega
             have HFIN : Hid (CrashQ id2 d ps w col (.returned (.pointer (some ⟨gd2, 0, none⟩))) wr) := Lib.hid (by
               refine ⟨gd2, mb3, f, colr, rfl, HS7.out.trans HST.out, ⟨v2, ?_⟩, fun i => ?_⟩
               · rw [← HNC.out, ← HP0.out, ← HLV.out, ← HN7.out]
                 exact HE.out
               · rw [← HNC.out, ← HP0.out, ← HLV.out, ← HN7.out, ← HP1.out, ← HTN.out, ← HP2'.out]
                 have h1 := HC.out i
                 rw [show (p2 % 65).toNat = t by rw [HTT.out]; rfl]
                 exact h1)
             clear HST HE HC
             go_wp2
             go_ret
             exact HFIN.out
end Go.Proofs.Ytdldclakkplliaa
