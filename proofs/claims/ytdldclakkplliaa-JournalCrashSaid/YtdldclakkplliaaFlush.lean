/- The walk of Flush of a disk. Conditions: none. -/
import Derived.Test.YtdldclakkplliaaWrites
namespace Go.Proofs.Ytdldclakkplliaa
set_option linter.unusedVariables false
set_option linter.unusedSimpArgs false
open Go.RowKit

noncomputable def G30 : Array Oper := regionOf Try.f30 6
theorem Gns30 : Region.noSelect G30 = true := by kernel_rfl

def putAll (f : Int → Option Wr) (ws : List Wr) : Int → Option Wr := ws.foldl (fun f s => upd f s.at_ s) f
theorem putAll_step (f : Int → Option Wr) (ws : List Wr) (k : Nat) (s : Wr) (h : ws[k]? = some s) : putAll f (ws.take (k + 1)) = upd (putAll f (ws.take k)) s.at_ s := by
  unfold putAll
  rw [List.take_add_one, h, List.foldl_append]
  rfl
theorem putAll_from (f : Int → Option Wr) (ws : List Wr) (i : Int) (s : Wr) (h : putAll f ws i = some s) : f i = some s ∨ s ∈ ws := by
  induction ws generalizing f with
  | nil => exact .inl h
  | cons t ws ih =>
    rcases ih (upd f t.at_ t) h with h1 | h1
    · unfold upd at h1
      split at h1
      · cases h1; exact .inr (List.mem_cons_self ..)
      · exact .inl h1
    · exact .inr (List.mem_cons_of_mem _ h1)
def flushD (d : DK) : DK := if (askedK d).2 = 0 then { (askedK d).1 with safe := putAll d.safe d.cache, cache := [], m := d.m + d.cache.length } else (askedK d).1

theorem flush_off (id gd mb : Nat) (d : DK) (v : Value) (n : Nat) (w0 : World) (col : Nat → Nat) (h : DiskV w0 col id gd mb v d) (hf : d.fits n) (hn : n ≤ 1000000) (he : (askedK d).2 = 7) :
    Calls Try.prog 30 #[.pointer (some ⟨gd, 0, none⟩)] w0 fun e w' => e = .returned (.int .i64 7) ∧ Step id w0 col w' col ∧ DiskV w' col id gd mb v (askedK d).1 := by
  have HASK := Lib.hid (asked_any id gd mb v d n w0 col h hf (by omega))
  have HE := Lib.hid he
  clear h hf he
  go_enter Try.func30, Try.ntmps30
  go_wp2_with fail
  refine HASK.out.mono ?_
  rintro e w ⟨rfl, st0, h⟩
  rw [HE.out]
  have HST := Lib.hid st0
  have HH := Lib.hid h
  clear st0 h
  go_wp2
  go_ret
  exact ⟨rfl, HST.out, HH.out⟩

theorem disk_flush {V Y : World} {col : Nat → Nat} {id gd mb : Nat} {v : Value} {d : DK} (h : DiskV V col id gd mb v d) (hk : Keeps (fun k => k = gd ∨ k = mb) V Y) (hg : Y.heap[gd]? = some (.cells (dcells d mb (.slice none 0 0)) 79 (0, 0)))
    (hm : MapAt Y mb (d.m + d.cache.length) (putAll d.safe d.cache)) : Step id V col Y col ∧ DiskV Y col id gd mb (.slice none 0 0) { d with safe := putAll d.safe d.cache, cache := [], m := d.m + d.cache.length } := by
  have st : Step id V col Y col := ⟨hk.mono fun k _ e => e.elim (fun e => e ▸ h.hcol) (fun e => e ▸ h.mcol), fun _ _ => rfl⟩
  refine ⟨st, ⟨h.hcol, h.nz, hg, World.ownsRow_nil _ 0 94 2, fun k hk => by simp [Value.ownBlock] at hk, hm, h.mne, h.mcol, fun i s hs => ?_, fun s hs => by simp at hs, h.dom⟩⟩
  rcases putAll_from _ _ _ _ hs with h1 | h1
  · exact (h.sd i s h1).step st h.nz
  · exact (h.cd s h1).1.step st h.nz

set_option maxRecDepth 100000 in
set_option maxHeartbeats 4000000 in
theorem flush_good (id gd mb : Nat) (d0 : DK) (v : Value) (n : Nat) (w0 : World) (col : Nat → Nat) (h : DiskV w0 col id gd mb v d0) (hf : d0.fits n) (hn : n ≤ 1000000) (hm : d0.m + d0.cache.length ≤ 1000000000) (he : (askedK d0).2 = 0) :
    Calls Try.prog 30 #[.pointer (some ⟨gd, 0, none⟩)] w0 fun e w' => e = .returned (.int .i64 0) ∧ Step id w0 col w' col ∧ DiskV w' col id gd mb (.slice none 0 0) { (askedK d0).1 with safe := putAll d0.safe d0.cache, cache := [], m := d0.m + d0.cache.length } := by
  have HASK := Lib.hid (asked_any id gd mb v d0 n w0 col h hf (by omega))
  have hcn := hf.2.2.2.2
  have HE := Lib.hid he
  obtain ⟨d, hd⟩ : ∃ d, d = (askedK d0).1 := ⟨_, rfl⟩
  have hdc : d.cache = d0.cache := by rw [hd]; exact asked_cache d0
  have hds : d.safe = d0.safe := by rw [hd]; exact asked_safe d0
  have hdm : d.m = d0.m := by rw [hd]; exact asked_m d0
  rw [← hdc, ← hdm] at hm
  rw [← hdc] at hcn
  rw [← hdc, ← hds, ← hdm, ← hd]
  have HD := Lib.hid hd
  clear h hf he hdc hds hdm hd
  go_enter Try.func30, Try.ntmps30
  go_wp2_with fail
  refine HASK.out.mono ?_
  rintro e w1 ⟨rfl, st0, h⟩
  rw [HE.out]
  rw [← HD.out] at h
  have HST := Lib.hid st0
  have HH := Lib.hid h
  have hgl : gd < w1.heap.size := (Array.getElem?_eq_some_iff.1 h.obj).1
  have hml : mb < w1.heap.size := h.map.lt
  have hmg := h.mne
  obtain ⟨A, c, rfl, hfw⟩ := own_FW h.own
  have HFW := Lib.hid hfw
  have hown : ∀ ad, A = some ad → ad.block ≠ mb := fun ad e => (h.blk ad.block (by subst e; rfl)).2.1
  have HOWN := Lib.hid hown
  have c2 : w1.cell? ⟨gd, 2, none⟩ = some (.slice A d.cache.length c) := by rw [cell_of_row _ _ 2 _ _ _ h.obj]; rfl
  obtain ⟨nc, hnc⟩ : ∃ n, n = d.cache.length := ⟨_, rfl⟩
  have HNC := Lib.hid hnc
  rw [← hnc] at hm hcn c2
  clear st0 h hfw hnc hown
  go_wp2
  clear c2
  go_loopw [5, 15] (fun u5 u15 w' => ∃ (k : Nat), k ≤ nc ∧ u15 = .int .i64 k ∧ Hid (MapAt w' mb (d.m + k) (putAll d.safe (d.cache.take k))) ∧ Hid (Keeps (fun j => j = mb) w1 w')) (fun _ u15 _ => nc - (intOf u15).toNat)
  case atStart => exact ⟨0, Nat.zero_le _, rfl, Lib.hid HH.out.map, Lib.hid (Keeps.refl _ _)⟩
  case round =>
    obtain ⟨k, hk, rfl, HM, HKP⟩ := hrel
    by_cases hlt : k < nc
    · obtain ⟨s, hs⟩ : ∃ s, s = d.cache[k]'(by rw [← HNC.out]; exact hlt) := ⟨_, rfl⟩
      have hs2 : d.cache[k]? = some s := by rw [hs]; exact List.getElem?_eq_getElem _
      obtain ⟨gg, rfl, ha0, ha1⟩ := HFW.out.at_ k s hs2
      have hne := HOWN.out _ rfl
      have hcd := HH.out.cd s (List.mem_of_getElem? hs2)
      have hdom := HH.out.dom
      have hgg : gg < w1.heap.size := World.block_lt_of_cell? w1 _ ha0
      have hb0 := (World.cell?_of_block (w := w1) (w' := wr) (a := ⟨gg, k * 2, none⟩) (HKP.out.block gg hgg hne)).trans ha0
      have hb1 := (World.cell?_of_block (w := w1) (w' := wr) (a := ⟨gg, k * 2 + 1, none⟩) (HKP.out.block gg hgg hne)).trans ha1
      have hgdr : wr.heap[gd]? = some (.cells (dcells d mb (.slice (some ⟨gg, 0, none⟩) d.cache.length c)) 79 (0, 0)) := (HKP.out.block gd hgl (fun e => hmg e.symm)).trans HH.out.obj
      have HST2 := Lib.hid (putAll_step d.safe d.cache k s hs2)
      obtain ⟨X, hX⟩ : ∃ X, X = wr.alloc (.cells #[.int .i64 s.at_, .slice s.A s.b.length s.c] 94) := ⟨_, rfl⟩
      have hbX : Below wr.heap.size wr X := by rw [hX]; exact bel_alloc (Below.refl _ _) _
      have hnX : X.heap[wr.heap.size]? = some (.cells #[.int .i64 s.at_, .slice s.A s.b.length s.c] 94 (0, 0)) := by rw [hX]; exact heap_alloc_new wr _
      have hmX : MapAt X.drew mb (d.m + k) (putAll d.safe (d.cache.take k)) := HM.out.keep (hbX.block mb HM.out.lt)
      obtain ⟨w2, hrun, hm2, hg2⟩ := hmX.update (k := s.at_) (by omega) (by omega) s
      have z0 : X.drew.cell? ⟨gd, 1, none⟩ = some (.map (some mb)) := by have := cell_of_row X gd 1 _ _ _ (heap_below hgdr hbX); exact this
      have z1 : X.drew.cell? ⟨wr.heap.size, 0, none⟩ = some (.int .i64 s.at_) := by have := cell_of_row X wr.heap.size 0 _ _ _ hnX; exact this
      have z2 : X.drew.cell? ⟨wr.heap.size, 1, none⟩ = some (.slice s.A s.b.length s.c) := by have := cell_of_row X wr.heap.size 1 _ _ _ hnX; exact this
      have hwl : wr.heap.size < X.heap.size := (Array.getElem?_eq_some_iff.1 hnX).1
      have hmwr := HKP.out.size
      have HS2 : Hid (w2.cell? ⟨gd, 1, none⟩ = some (.map (some mb)) ∧ w2.cell? ⟨wr.heap.size, 0, none⟩ = some (.int .i64 s.at_) ∧ w2.cell? ⟨wr.heap.size, 1, none⟩ = some (.slice s.A s.b.length s.c)) := Lib.hid (by
        have hgdX : gd < X.drew.heap.size := World.block_lt_of_cell? X.drew _ z0
        refine ⟨(World.cell?_of_block (a := ⟨gd, 1, none⟩) (hg2.block gd hgdX (fun e => hmg (Option.some.inj e).symm))).trans z0, (World.cell?_of_block (a := ⟨wr.heap.size, 0, none⟩) (hg2.block wr.heap.size hwl (fun e => ?_))).trans z1, (World.cell?_of_block (a := ⟨wr.heap.size, 1, none⟩) (hg2.block wr.heap.size hwl (fun e => ?_))).trans z2⟩
        · have := Option.some.inj e; omega
        · have := Option.some.inj e; omega)
      have HM2 : Hid (MapAt w2 mb (d.m + (k + 1)) (putAll d.safe (d.cache.take (k + 1)))) := Lib.hid (by rw [HST2.out]; exact hm2)
      have HKP2 : Hid (Keeps (fun j => j = mb) w1 w2) := Lib.hid (((HKP.out.below hbX).drew).grown hg2 (fun j e => .inl (Option.some.inj e).symm))
      clear ha0 ha1 hs hs2 hgdr hmX hm2 hg2 hcd hdom hbX hnX hwl hmwr HM HKP
      go_wp2_with fail
      rw [← hX]
      refine region_const (G := G30) (S := fun X => X.cell? ⟨gd, 1, none⟩ = some (.map (some mb)) ∧ X.cell? ⟨wr.heap.size, 0, none⟩ = some (.int .i64 s.at_) ∧ X.cell? ⟨wr.heap.size, 1, none⟩ = some (.slice s.A s.b.length s.c)) (n := 9) (by kernel_rfl) (by kernel_rfl) rfl ⟨z0, z1, z2⟩ (fun HG hS0 => ?_)
      have Gns := Gns30
      clear hX hb0 hb1
      generalize X.drew = V at *
      simp only [Array.replicate_succ, Array.replicate_zero, List.push_toArray, List.nil_append, List.cons_append]
      refine wpAnyH_take (i := 0) (v := ?_) (o_at HG 0 rfl) Gns (by kernel_rfl) (by kernel_rfl) (fun _ _ _ h => h) (Or.inl ⟨(by kernel_rfl), ?_⟩) (by first | trivial | assumption) ?_
      rotate_left
      · (intro w hSw; (try dsimp only at hSw); go_simp; try with_reducible rfl)
      try simp only [Act.put, List.getElem_toArray, List.getElem_cons_zero, List.getElem_cons_succ, List.setIfInBounds_toArray, List.set_cons_zero, List.set_cons_succ]
      refine wpAnyH_take (i := 1) (v := ?_) (o_at HG 1 rfl) Gns (by kernel_rfl) (by kernel_rfl) (fun _ _ _ h => h) (Or.inl ⟨(by kernel_rfl), ?_⟩) (by first | trivial | assumption) ?_
      rotate_left
      · (intro w hSw; (try dsimp only at hSw); go_simp; try with_reducible rfl)
      try simp only [Act.put, List.getElem_toArray, List.getElem_cons_zero, List.getElem_cons_succ, List.setIfInBounds_toArray, List.set_cons_zero, List.set_cons_succ]
      refine wpAnyH_take (i := 2) (v := ?_) (o_at HG 2 rfl) Gns (by kernel_rfl) (by kernel_rfl) (fun _ _ _ h => h) (Or.inl ⟨(by kernel_rfl), ?_⟩) (by first | trivial | assumption) ?_
      rotate_left
      · (intro w hSw; (try dsimp only at hSw); go_simp; try with_reducible rfl)
      try simp only [Act.put, List.getElem_toArray, List.getElem_cons_zero, List.getElem_cons_succ, List.setIfInBounds_toArray, List.set_cons_zero, List.set_cons_succ]
      refine wpAnyH_take (i := 3) (v := ?_) (o_at HG 3 rfl) Gns (by kernel_rfl) (by kernel_rfl) (fun _ _ _ h => h) (Or.inl ⟨(by kernel_rfl), ?_⟩) (by first | trivial | assumption) ?_
      rotate_left
      · (intro w hSw; (try dsimp only at hSw); go_simp; try with_reducible rfl)
      try simp only [Act.put, List.getElem_toArray, List.getElem_cons_zero, List.getElem_cons_succ, List.setIfInBounds_toArray, List.set_cons_zero, List.set_cons_succ]
      refine wpAnyH_take (i := 4) (v := ?_) (o_at HG 4 rfl) Gns (by kernel_rfl) (by kernel_rfl) (fun _ _ _ h => h) (Or.inl ⟨(by kernel_rfl), ?_⟩) (by first | trivial | assumption) ?_
      rotate_left
      · (intro w hSw; (try dsimp only at hSw); go_simp; try with_reducible rfl)
      try simp only [Act.put, List.getElem_toArray, List.getElem_cons_zero, List.getElem_cons_succ, List.setIfInBounds_toArray, List.set_cons_zero, List.set_cons_succ]
      refine wpAnyH_take (i := 5) (v := ?_) (o_at HG 5 rfl) Gns (by kernel_rfl) (by kernel_rfl) (fun _ _ _ h => h) (Or.inl ⟨(by kernel_rfl), ?_⟩) (by first | trivial | assumption) ?_
      rotate_left
      · (intro w hSw; (try dsimp only at hSw); go_simp; try with_reducible rfl)
      try simp only [Act.put, List.getElem_toArray, List.getElem_cons_zero, List.getElem_cons_succ, List.setIfInBounds_toArray, List.set_cons_zero, List.set_cons_succ]
      refine wpAnyH_take (i := 6) (v := ?_) (o_at HG 6 rfl) Gns (by kernel_rfl) (by kernel_rfl) (fun _ _ _ h => h) (Or.inl ⟨(by kernel_rfl), ?_⟩) (by first | trivial | assumption) ?_
      rotate_left
      · (intro w hSw; (try dsimp only at hSw); go_simp; try with_reducible rfl)
      try simp only [Act.put, List.getElem_toArray, List.getElem_cons_zero, List.getElem_cons_succ, List.setIfInBounds_toArray, List.set_cons_zero, List.set_cons_succ]
      refine wpAnyH_take (i := 7) (v := ?_) (o_at HG 7 rfl) Gns (by kernel_rfl) (by kernel_rfl) (fun _ _ _ h => h) (Or.inl ⟨(by kernel_rfl), ?_⟩) (by first | trivial | assumption) ?_
      rotate_left
      · (intro w hSw; (try dsimp only at hSw); go_simp; try with_reducible rfl)
      try simp only [Act.put, List.getElem_toArray, List.getElem_cons_zero, List.getElem_cons_succ, List.setIfInBounds_toArray, List.set_cons_zero, List.set_cons_succ]
      refine wpAnyH_ready (rs := [8]) (by kernel_rfl) (by simp) ?_
      refine AllReadyH.cons (o_at HG 8 rfl) ?_ (AllReadyH.nil)
      · intro K' hK
        rw [if_pos (by kernel_rfl)]
        go_simp
        refine hK.out _ _ HS2.out (fun _ => ?_)
        try simp only [Act.put, List.getElem_toArray, List.getElem_cons_zero, List.getElem_cons_succ, List.setIfInBounds_toArray, List.set_cons_zero, List.set_cons_succ]
        refine wpAnyH_done (by kernel_rfl) ?_ _
        clear hS0 hrun z0 z1 z2
        go_wp2
        go_roundw
        case rel => exact ⟨k + 1, by omega, by go_num, HM2, HKP2⟩
        case measure => simp [intOf]; omega
    · obtain rfl : k = nc := by omega
      have hgr : wr.heap[gd]? = some (.cells (dcells d mb (.slice A d.cache.length c)) 79 (0, 0)) := (HKP.out.block gd hgl (fun e => hmg e.symm)).trans HH.out.obj
      have hset := row_set (j := 2) (.slice none 0 0) hgr
      have hfz := frozen_of_row _ _ 2 _ _ hgr
      have hc2 : wr.cell? ⟨gd, 2, none⟩ = some (.slice A d.cache.length c) := by rw [cell_of_row _ _ 2 _ _ _ hgr]; rfl
      have hfull : d.cache.take k = d.cache := List.take_of_length_le (by rw [← HNC.out]; exact Nat.le_refl _)
      have HMF : Hid (MapAt (wr.setCell ⟨gd, 2, none⟩ (.slice none 0 0)) mb (d.m + d.cache.length) (putAll d.safe d.cache)) := Lib.hid (by
        have := HM.out
        rw [hfull, HNC.out] at this
        exact this.keep (Below.heap_setCell _ _ _ _ hmg))
      have HEND := Lib.hid (disk_flush HH.out (((HKP.out.mono (fun j _ e => .inr e)).setCell (.inl (.inl rfl)) _)) (by simpa [dcells] using hset) HMF.out)
      clear hgr hset hfull HM HKP HMF
      go_wp2
      go_ret
      exact ⟨rfl, HST.out.trans HEND.out.1, HEND.out.2⟩

def FlushQ (id gd mb : Nat) (d : DK) (w : World) (col : Nat → Nat) (e : Ending) (w' : World) : Prop := e = .returned (.int .i64 (askedK d).2) ∧ Step id w col w' col ∧ DiskAt w' col id gd mb (flushD d)
theorem flush_any (id gd mb : Nat) (d : DK) (n : Nat) (w : World) (col : Nat → Nat) (h : DiskAt w col id gd mb d) (hf : d.fits n) (hn : n ≤ 1000000) (hm : d.m + d.cache.length ≤ 1000000000) :
    Calls Try.prog 30 #[.pointer (some ⟨gd, 0, none⟩)] w (FlushQ id gd mb d w col) := by
  obtain ⟨v, h⟩ := h
  rcases asked_e d with he | he
  · refine (flush_good id gd mb d v n w col h hf hn hm he).mono ?_
    rintro e w' ⟨rfl, st, hd⟩
    exact ⟨by rw [he], st, _, by unfold flushD; rw [if_pos he]; exact hd⟩
  · refine (flush_off id gd mb d v n w col h hf hn he).mono ?_
    rintro e w' ⟨rfl, st, hd⟩
    exact ⟨by rw [he], st, v, by unfold flushD; rw [if_neg (by rw [he]; omega)]; exact hd⟩
theorem asked_nil (w : World) : Calls Try.prog 59 #[.pointer none] w fun e w' => e = .returned (.int .i64 7) ∧ w = w' := by
  go_enter Try.func59, Try.ntmps59
  go_wp2
  go_ret
  exact ⟨rfl, rfl⟩
theorem flush_nil (w : World) : Calls Try.prog 30 #[.pointer none] w fun e w' => e = .returned (.int .i64 7) ∧ w = w' := by
  go_enter Try.func30, Try.ntmps30
  go_wp2_with fail
  refine (asked_nil w).mono ?_
  rintro e w' ⟨rfl, rfl⟩
  go_wp2
  go_ret
  exact ⟨rfl, rfl⟩
end Go.Proofs.Ytdldclakkplliaa
