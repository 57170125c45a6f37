/- The walk of Write of a disk. Conditions: none. -/
import Derived.Test.YtdldclakkplliaaSector
namespace Go.Proofs.Ytdldclakkplliaa
set_option linter.unusedVariables false
set_option linter.unusedSimpArgs false
open Go.RowKit

noncomputable def G28 : Array Oper := regionOf Try.f28 6
theorem Gns28 : Region.noSelect G28 = true := by kernel_rfl
theorem info94 : ∃ z, (Try.prog.info? 94).map (fun i => (i.zero, i.size, i.bytes)) = some (some z, 2, 32) ∧ z.cells.size = 2 := ⟨.agg #[.int .i64 0, .slice none 0 0], by kernel_rfl, by rfl⟩
theorem bel_undrew {w X : World} (h : Below w.drew.heap.size w.drew X) : Below w.heap.size w X := ⟨h.os, h.tape, h.output, h.size, h.block⟩

/-- What a write answers; s: the write as it lies in the cache. -/
def writeE (d : DK) (at' : Int) (len : Nat) : Int := if (askedK d).2 ≠ 0 then (askedK d).2 else if at' < 0 ∨ (d.n : Int) ≤ at' ∨ len ≠ 64 then 1 else 0
def writeD (d : DK) (s : Wr) : DK := if writeE d s.at_ s.b.length = 0 then { (askedK d).1 with cache := d.cache ++ [s] } else (askedK d).1
theorem asked_cache (d : DK) : (askedK d).1.cache = d.cache := by unfold askedK; split <;> rfl
theorem asked_n (d : DK) : (askedK d).1.n = d.n := by unfold askedK; split <;> rfl
theorem asked_m (d : DK) : (askedK d).1.m = d.m := by unfold askedK; split <;> rfl
theorem asked_safe (d : DK) : (askedK d).1.safe = d.safe := by unfold askedK; split <;> rfl
theorem asked_e (d : DK) : (askedK d).2 = 0 ∨ (askedK d).2 = 7 := by unfold askedK; split <;> simp

theorem disk_add {V Y : World} {col : Nat → Nat} {id gd mb : Nat} {v v1 : Value} {d : DK} {s : Wr} (h : DiskV V col id gd mb v d) (hk : Keeps (fun k => k = gd ∨ v.ownBlock = some k) V Y) (hg : Y.heap[gd]? = some (.cells (dcells d mb v1) 79 (0, 0)))
    (ho : Y.ownsRow 0 94 2 v1 (d.cache.length + 1) (rowW (d.cache ++ [s]))) (hv1 : v1.ownBlock = v.ownBlock ∨ ∃ k, v1.ownBlock = some k ∧ V.heap.size ≤ k) (hs : SV s.A s.b.length s.c) (hrb : RB Y s.A s.b) (hlen : s.b.length = 64)
    (hap : ∀ ad, s.A = some ad → V.heap.size ≤ ad.block ∧ v1.ownBlock ≠ some ad.block) (hat : 0 ≤ s.at_ ∧ s.at_ < d.n) : ∃ col', Step id V col Y col' ∧ DiskV Y col' id gd mb v1 { d with cache := d.cache ++ [s] } := by
  have hgl : gd < V.heap.size := (Array.getElem?_eq_some_iff.1 h.obj).1
  have st : Step id V col Y (paint V col (fun k => if v1.ownBlock = some k then id else 0)) := Step.mk' (hk.mono fun k _ e => e.elim (fun e => e ▸ h.hcol) (fun e => (h.blk k e).2.2))
  refine ⟨_, st, ⟨(paint_old hgl).trans h.hcol, h.nz, hg, ?_, fun k hk2 => ?_, h.map.keep (hk.block mb h.map.lt (fun e => e.elim h.mne (fun e => (h.blk mb e).2.1 rfl))), h.mne, (paint_old h.map.lt).trans h.mcol, fun i q hq => (h.sd i q hq).step st h.nz, fun q hq => ?_, h.dom⟩⟩
  · rw [List.length_append]; exact ho
  · rcases hv1 with h1 | ⟨k', h1, hk'⟩
    · have h2 := h1.symm.trans hk2
      have h3 := h.blk k h2
      exact ⟨h3.1, h3.2.1, (paint_old (h.own.lt k h2).2).trans h3.2.2⟩
    · have : k' = k := by rw [h1] at hk2; exact Option.some.inj hk2
      subst this
      have := h.map.lt
      exact ⟨by omega, by omega, by rw [paint_new hk', if_pos h1]⟩
  · rcases List.mem_append.1 hq with hq | hq
    · exact ⟨(h.cd q hq).1.step st h.nz, (h.cd q hq).2⟩
    · rw [List.mem_singleton] at hq
      subst hq
      exact ⟨⟨hs, ⟨hrb, fun hp ad e => by rw [paint_new (hap ad e).1, if_neg (hap ad e).2]⟩, hlen⟩, hat⟩

theorem clone_at (A : Option Addr) (c n : Nat) (b : List UInt8) (w : World) (hn : n = b.length) (hr : RB w A b) (hc : SV A b.length c) (hb : b.length ≤ 140737488355328) : Calls Try.prog 44 #[.slice A n c] w (CloneP b w) := by
  subst hn
  exact clone_any A c b w hr hc hb
def WriteQ (id gd mb : Nat) (d : DK) (at' : Int) (b : List UInt8) (w : World) (col : Nat → Nat) (e : Ending) (w' : World) : Prop :=
  e = .returned (.int .i64 (writeE d at' b.length)) ∧ ∃ col' A c, Step id w col w' col' ∧ DiskAt w' col' id gd mb (writeD d ⟨at', b, A, c⟩)

set_option maxRecDepth 100000 in
theorem write_fin (id gd mb : Nat) (d : DK) (v : Value) (at' : Int) (b : List UInt8) (w : World) (col : Nat → Nat) (h : DiskV w col id gd mb v d) (hat : 0 ≤ at' ∧ at' < d.n) (hb : b.length = 64) :
    ∀ (X Y : World) (v1 : Value) (Ab : Option Addr) (cb : Nat), Below w.drew.heap.size w.drew X → Y.ownsRow 0 94 2 v1 (d.cache.length + 1) (rowW d.cache ++ [.int .i64 at', .slice Ab b.length cb]) → X.grownBy Y v.ownBlock → (v1.ownBlock = v.ownBlock ∨ v1.ownBlock = some X.heap.size) → RB X Ab b →
      (∀ ad, Ab = some ad → w.drew.heap.size ≤ ad.block) → SV Ab b.length cb → Y.frozen? ⟨gd, 2, none⟩ = false ∧ Y.cell? ⟨gd, 2, none⟩ = some v ∧ ((∃ Av cv, v1 = .slice Av (d.cache.length + 1) cv) ∧ ∃ col', Step id w col (Y.setCell ⟨gd, 2, none⟩ v1) col' ∧ DiskV (Y.setCell ⟨gd, 2, none⟩ v1) col' id gd mb v1 { d with cache := d.cache ++ [⟨at', b, Ab, cb⟩] }) := by
  have hgl : gd < w.heap.size := (Array.getElem?_eq_some_iff.1 h.obj).1
  intro X Y v1 Ab cb hB ho hg hv hrb hap hsvb
  have hB' : Below w.heap.size w X := bel_undrew hB
  have hsz := hB'.size
  have hgY : Y.heap[gd]? = some (.cells (dcells d mb v) 79 (0, 0)) := (hg.block gd (by omega) (fun e => (h.blk gd e.symm).1 rfl)).trans (heap_below h.obj hB')
  have hset := row_set (j := 2) v1 hgY
  have hvg : ∀ k, v1.ownBlock = some k → k ≠ gd := by
    intro k hk
    rcases hv with h1 | h1
    · exact (h.blk k (h1.symm.trans hk)).1
    · rw [h1] at hk; cases hk; omega
  have ho2 : (Y.setCell ⟨gd, 2, none⟩ v1).ownsRow 0 94 2 v1 (d.cache.length + 1) (rowW (d.cache ++ [(⟨at', b, Ab, cb⟩ : Wr)])) := by
    rw [rowW_append]
    exact own_keep ho fun k hk => Below.heap_setCell _ _ _ _ (hvg k hk)
  have hapb : ∀ ad, Ab = some ad → 0 < b.length → ad.block ≠ gd ∧ v.ownBlock ≠ some ad.block := fun ad e hp => by
    have h1 : w.heap.size ≤ ad.block := hap ad e
    refine ⟨by omega, fun e2 => ?_⟩
    have := (h.own.lt _ e2).2
    omega
  have hrbY : RB (Y.setCell ⟨gd, 2, none⟩ v1) Ab b := by
    refine RB.keep (w := Y) (RB.keep hrb fun hp ad e => hg.block _ (hrb.lt hp ad e) (fun e2 => (hapb ad e hp).2 e2.symm)) fun hp ad e => Below.heap_setCell _ _ _ _ (hapb ad e hp).1
  refine ⟨frozen_of_row _ _ 2 _ _ hgY, by rw [cell_of_row _ _ 2 _ _ _ hgY]; rfl, ?_, ?_⟩
  · have hlen : d.cache.length + 1 = (d.cache ++ [(⟨at', b, Ab, cb⟩ : Wr)]).length := by simp
    rw [hlen] at ho2
    obtain ⟨Av, cv, e, -⟩ := own_FW ho2
    exact ⟨Av, cv, by rw [hlen]; exact e⟩
  · refine disk_add (s := ⟨at', b, Ab, cb⟩) h (((Keeps.refl _ w).below hB').grown hg (fun k e => .inl (.inr e)) |>.setCell (.inl (.inl rfl)) _) ?_ ho2 ?_ hsvb hrbY hb (fun ad e => ⟨hap ad e, fun e2 => ?_⟩) hat
    · simpa [dcells] using hset
    · rcases hv with h1 | h1
      · exact .inl h1
      · exact .inr ⟨_, h1, hsz⟩
    · have h1 : w.heap.size ≤ ad.block := hap ad e
      rcases hv with h2 | h2
      · have := (h.own.lt _ (h2.symm.trans e2)).2
        omega
      · rw [h2] at e2
        have h3 := Option.some.inj e2
        have := hrb.lt (by omega) ad e
        omega

set_option maxRecDepth 100000 in
set_option maxHeartbeats 4000000 in
theorem write_good (id gd mb : Nat) (d0 : DK) (v : Value) (n : Nat) (at' : Int) (A : Option Addr) (c cl : Nat) (b : List UInt8) (w0 : World) (col : Nat → Nat) (h : DiskV w0 col id gd mb v d0) (hf : d0.fits n) (hn : n ≤ 1000000) (he : (askedK d0).2 = 0) (hr : RC w0 col cl A b) (hcl : cl ≠ id) (hsv : SV A b.length c) (hat : 0 ≤ at' ∧ at' < d0.n) (hb : b.length = 64) :
    Calls Try.prog 28 #[.pointer (some ⟨gd, 0, none⟩), .int .i64 at', .slice A 64 c] w0 fun e w' => e = .returned (.int .i64 0) ∧ ∃ col' A c v1, Step id w0 col w' col' ∧ DiskV w' col' id gd mb v1 { (askedK d0).1 with cache := d0.cache ++ [⟨at', b, A, c⟩] } := by
  have hask := asked_any id gd mb v d0 n w0 col h hf (by omega)
  have hcn := hf.2.2.2.2
  have HR0 := Lib.hid hr
  have HSV := Lib.hid hsv
  have HASK := Lib.hid hask
  have HBL := Lib.hid hb
  have HAT := Lib.hid hat
  have HE := Lib.hid he
  have HDC := Lib.hid (asked_cache d0)
  have HDN := Lib.hid (asked_n d0)
  obtain ⟨ha0, ha1⟩ := hat
  have hbl : b.length ≤ 140737488355328 := by omega
  have hz1 : decide (at' < 0) = false := by simp; omega
  have hz2 : decide ((d0.n : Int) ≤ at') = false := by simp; omega
  obtain ⟨z94, hz94, hzs94⟩ := info94
  clear h hr hsv hask hb he hf
  go_enter Try.func28, Try.ntmps28
  go_wp2_with fail
  refine HASK.out.mono ?_
  rintro e w ⟨rfl, st0, h⟩
  rw [HE.out]
  obtain ⟨d, hd⟩ : ∃ d, d = (askedK d0).1 := ⟨_, rfl⟩
  rw [← hd] at h HDC HDN
  have HD := Lib.hid hd
  have HST := Lib.hid st0
  have HFIN := Lib.hid (write_fin id gd mb d v at' b w col h (by rw [HDN.out]; exact HAT.out) HBL.out)
  have HOWN := Lib.hid h.own
  have HC2 : Hid (w.drew.cell? ⟨gd, 2, none⟩ = some v) := Lib.hid (by have := cell_of_row w gd 2 _ _ _ h.obj; exact this)
  have c0 : w.cell? ⟨gd, 0, none⟩ = some (.int .i64 d0.n) := by rw [cell_of_row _ _ 0 _ _ _ h.obj, ← HDN.out]; rfl
  have HR := Lib.hid (HR0.out.step st0 (fun e => hcl e.symm)).read.drew
  obtain ⟨k, hk⟩ : ∃ k, k = d.cache.length := ⟨_, rfl⟩
  have hk2 : k ≤ 1000000 := by rw [hk, HDC.out]; omega
  rw [← hk] at HFIN HOWN
  clear h hk hd st0
  go_wp2_with fail
  refine region_const (G := G28) (S := fun _ => True) (n := 14) (by kernel_rfl) (by kernel_rfl) rfl trivial (fun HG _ => ?_)
  have Gns := Gns28
  obtain ⟨V, hV⟩ : ∃ V, V = w.drew := ⟨_, rfl⟩
  rw [← hV] at HFIN HC2 HR ⊢
  have HOWN2 : Hid (V.ownsRow 0 94 2 v k (rowW d.cache)) := Lib.hid (by rw [hV]; exact HOWN.out)
  clear HOWN c0
  have HOWN := HOWN2
  clear HOWN2 hV
  obtain ⟨X0, hX0⟩ : ∃ X, X = V := ⟨V, rfl⟩
  have HB : Hid (Below V.heap.size V X0) := Lib.hid (by rw [hX0]; exact Below.refl _ _)
  rw [← hX0]
  clear hX0
  simp only [Array.replicate_succ, Array.replicate_zero, List.push_toArray, List.nil_append, List.cons_append]
  refine wpAnyH_take (i := 0) (v := ?_) (o_at HG 0 rfl) Gns (by kernel_rfl) (by kernel_rfl) (fun _ _ _ h => h) (Or.inl ⟨(by kernel_rfl), ?_⟩) (by first | trivial | assumption) ?_
  rotate_left
  · (intro w hSw; (try dsimp only at hSw); go_simp; try with_reducible rfl)
  try simp only [Act.put, List.getElem_toArray, List.getElem_cons_zero, List.getElem_cons_succ, List.setIfInBounds_toArray, List.set_cons_zero, List.set_cons_succ]
  refine wpAnyH_take (i := 1) (v := ?_) (o_at HG 1 rfl) Gns (by kernel_rfl) (by kernel_rfl) (fun _ _ _ h => h) (Or.inl ⟨(by kernel_rfl), ?_⟩) (by first | trivial | assumption) ?_
  rotate_left
  · (intro w hSw; (try dsimp only at hSw); go_simp; try with_reducible rfl)
  try simp only [Act.put, List.getElem_toArray, List.getElem_cons_zero, List.getElem_cons_succ, List.setIfInBounds_toArray, List.set_cons_zero, List.set_cons_succ]
  refine wpAnyH_take (i := 2) (v := ?_) (o_at HG 2 rfl) Gns (by kernel_rfl) (by kernel_rfl) (fun _ _ _ h => h) (Or.inl ⟨(by kernel_rfl), ?_⟩) (by first | trivial | assumption) ?_
  rotate_left
  · (intro w hSw; (try dsimp only at hSw); go_simp; try with_reducible rfl)
  try simp only [Act.put, List.getElem_toArray, List.getElem_cons_zero, List.getElem_cons_succ, List.setIfInBounds_toArray, List.set_cons_zero, List.set_cons_succ]
  refine wpAnyH_take (i := 3) (v := ?_) (o_at HG 3 rfl) Gns (by kernel_rfl) (by kernel_rfl) (fun _ _ _ h => h) (Or.inl ⟨(by kernel_rfl), ?_⟩) (by first | trivial | assumption) ?_
  rotate_left
  · (intro w hSw; (try dsimp only at hSw); go_simp; try with_reducible rfl)
  try simp only [Act.put, List.getElem_toArray, List.getElem_cons_zero, List.getElem_cons_succ, List.setIfInBounds_toArray, List.set_cons_zero, List.set_cons_succ]
  refine wpAnyH_take (i := 5) (v := ?_) (o_at HG 5 rfl) Gns (by kernel_rfl) (by kernel_rfl) (fun _ _ _ h => h) (Or.inl ⟨(by kernel_rfl), ?_⟩) (by first | trivial | assumption) ?_
  rotate_left
  · (intro w hSw; (try dsimp only at hSw); go_simp; try with_reducible rfl)
  try simp only [Act.put, List.getElem_toArray, List.getElem_cons_zero, List.getElem_cons_succ, List.setIfInBounds_toArray, List.set_cons_zero, List.set_cons_succ]
  refine wpAnyH_take (i := 6) (v := ?_) (o_at HG 6 rfl) Gns (by kernel_rfl) (by kernel_rfl) (fun _ _ _ h => h) (Or.inl ⟨(by kernel_rfl), ?_⟩) (by first | trivial | assumption) ?_
  rotate_left
  · (intro w hSw; (try dsimp only at hSw); go_simp; try with_reducible rfl)
  try simp only [Act.put, List.getElem_toArray, List.getElem_cons_zero, List.getElem_cons_succ, List.setIfInBounds_toArray, List.set_cons_zero, List.set_cons_succ]
  refine wpAnyH_ready (rs := [4, 7]) (by kernel_rfl) (by simp) ?_
  refine AllReadyH.cons (o_at HG 4 rfl) ?_ (AllReadyH.cons (o_at HG 7 rfl) ?_ (AllReadyH.nil))
  · intro K' hK
    have hc1 : X0.cell? ⟨gd, 2, none⟩ = some v := (HB.out.cell (World.block_lt_of_cell? _ _ HC2.out)).trans HC2.out
    rw [if_pos (by kernel_rfl)]
    go_simp
    clear hc1
    refine hK.out _ _ trivial (fun _ => ?_)
    try simp only [Act.put, List.getElem_toArray, List.getElem_cons_zero, List.getElem_cons_succ, List.setIfInBounds_toArray, List.set_cons_zero, List.set_cons_succ]
    refine wpAnyH_ready (rs := [7]) (by kernel_rfl) (by simp) ?_
    refine AllReadyH.cons (o_at HG 7 rfl) ?_ (AllReadyH.nil)
    · intro K' hK
      rw [if_pos (by kernel_rfl)]
      go_simp
      (with_reducible refine (clone_at A c 64 b X0 HBL.out.symm (HR.out.below HB.out) HSV.out hbl).mono ?_)
      rintro e X1 ⟨vb, rfl, hob, hbel⟩
      obtain ⟨Ab, cb, rfl, hsvb, hrbb⟩ := hob.reads
      have hap : ∀ ad, Ab = some ad → V.heap.size ≤ ad.block := fun ad e => Nat.le_trans HB.out.size (hob.base_ ad.block (by subst e; rfl))
      have hB := bel_then HB.out hbel
      clear HB
      refine hK.out _ _ trivial (fun _ => ?_)
      have HB := Lib.hid hB
      have HSB := Lib.hid hsvb
      have HRBN := Lib.hid hrbb
      have HAP := Lib.hid hap
      clear hB hsvb hrbb hap hob hbel
      try simp only [Act.put, List.getElem_toArray, List.getElem_cons_zero, List.getElem_cons_succ, List.setIfInBounds_toArray, List.set_cons_zero, List.set_cons_succ]
      refine wpAnyH_take (i := 8) (v := ?_) (o_at HG 8 rfl) Gns (by kernel_rfl) (by kernel_rfl) (fun _ _ _ h => h) (Or.inl ⟨(by kernel_rfl), ?_⟩) (by first | trivial | assumption) ?_
      rotate_left
      · (intro w hSw; (try dsimp only at hSw); go_simp; try with_reducible rfl)
      try simp only [Act.put, List.getElem_toArray, List.getElem_cons_zero, List.getElem_cons_succ, List.setIfInBounds_toArray, List.set_cons_zero, List.set_cons_succ]
      refine wpAnyH_ready (rs := [9]) (by kernel_rfl) (by simp) ?_
      refine AllReadyH.cons (o_at HG 9 rfl) ?_ (AllReadyH.nil)
      · intro K' hK
        rw [if_pos (by kernel_rfl)]
        go_simp
        have hB : Below V.heap.size V (X1.alloc (.cells #[.int .i64 at', .slice Ab b.length cb] 94)) := bel_alloc HB.out _
        have hN : ∀ j u, [Value.int .i64 at', .slice Ab b.length cb][j]? = some u → (X1.alloc (.cells #[.int .i64 at', .slice Ab b.length cb] 94)).cell? ((⟨X1.heap.size, 0, none⟩ : Addr).add j) = some u := fun j u hu => cell_alloc _ _ _ _ _ rfl j u (by simpa using hu)
        have hR : RB (X1.alloc (.cells #[.int .i64 at', .slice Ab b.length cb] 94)) Ab b := HRBN.out.alloc _
        refine hK.out _ _ trivial (fun _ => ?_)
        clear HB HRBN
        have HB := Lib.hid hB
        have HN := Lib.hid hN
        have HRBN := Lib.hid hR
        clear hB hN hR
        generalize (X1.alloc (.cells #[.int .i64 at', .slice Ab b.length cb] 94)) = X2 at *
        generalize X1.heap.size = k40 at *
        try simp only [Act.put, List.getElem_toArray, List.getElem_cons_zero, List.getElem_cons_succ, List.setIfInBounds_toArray, List.set_cons_zero, List.set_cons_succ]
        refine wpAnyH_ready (rs := [10]) (by kernel_rfl) (by simp) ?_
        refine AllReadyH.cons (o_at HG 10 rfl) ?_ (AllReadyH.nil)
        · intro K' hK
          refine step_app (by kernel_rfl) _ _ 77 rfl 0 94 z94 2 32 Try.underlying77 hz94 hzs94 (by decide) v k (rowW d.cache) rfl ?_ (some ⟨k40, 0, none⟩) 1 1 [.int .i64 at', .slice Ab b.length cb] rfl rfl (fun e => by cases e) (fun _ => ⟨_, rfl, HN.out⟩) (by intro u hu; simp only [List.mem_cons, List.not_mem_nil, or_false] at hu; rcases hu with rfl | rfl <;> rfl) (by unfold maxLen; omega) (by omega) (Nat.zero_le _) ?_
          · exact own_keep HOWN.out fun j hj => HB.out.block j (HOWN.out.lt j hj).2
          intro v1 X3 ho hg hv
          have hfin := HFIN.out X2 X3 v1 Ab cb HB.out ho hg hv HRBN.out HAP.out HSB.out
          have hz2 : X3.frozen? ⟨gd, 2, none⟩ = false := hfin.1
          have hc2 : X3.cell? ⟨gd, 2, none⟩ = some v := hfin.2.1
          have HEND := Lib.hid hfin.2.2
          clear ho hg hv hfin HB HRBN HN
          refine hK.out _ _ trivial (fun _ => ?_)
          try simp only [Act.put, List.getElem_toArray, List.getElem_cons_zero, List.getElem_cons_succ, List.setIfInBounds_toArray, List.set_cons_zero, List.set_cons_succ]
          refine wpAnyH_take (i := 11) (v := ?_) (o_at HG 11 rfl) Gns (by kernel_rfl) (by kernel_rfl) (fun _ _ _ h => h) (Or.inl ⟨(by kernel_rfl), ?_⟩) (by first | trivial | assumption) ?_
          rotate_left
          · (intro w hSw; (try dsimp only at hSw); go_simp; try with_reducible rfl)
          try simp only [Act.put, List.getElem_toArray, List.getElem_cons_zero, List.getElem_cons_succ, List.setIfInBounds_toArray, List.set_cons_zero, List.set_cons_succ]
          refine wpAnyH_take (i := 12) (v := ?_) (o_at HG 12 rfl) Gns (by kernel_rfl) (by kernel_rfl) (fun _ _ _ h => h) (Or.inl ⟨(by kernel_rfl), ?_⟩) (by first | trivial | assumption) ?_
          rotate_left
          · (intro w hSw; (try dsimp only at hSw); go_simp; try with_reducible rfl)
          try simp only [Act.put, List.getElem_toArray, List.getElem_cons_zero, List.getElem_cons_succ, List.setIfInBounds_toArray, List.set_cons_zero, List.set_cons_succ]
          refine wpAnyH_ready (rs := [13]) (by kernel_rfl) (by simp) ?_
          refine AllReadyH.cons (o_at HG 13 rfl) ?_ (AllReadyH.nil)
          · intro K' hK
            obtain ⟨Av, cv, hvv⟩ := HEND.out.1
            subst hvv
            rw [if_pos (by kernel_rfl)]
            go_simp
            clear hz2 hc2
            refine hK.out _ _ trivial (fun _ => ?_)
            try simp only [Act.put, List.getElem_toArray, List.getElem_cons_zero, List.getElem_cons_succ, List.setIfInBounds_toArray, List.set_cons_zero, List.set_cons_succ]
            refine wpAnyH_done (by kernel_rfl) ?_ _
            go_wp2
            go_ret
            obtain ⟨col', st, hd⟩ := HEND.out.2
            rw [HD.out] at hd
            rw [asked_cache] at hd
            exact ⟨rfl, col', _, _, _, HST.out.trans st, hd⟩
  · intro K' hK
    rw [if_pos (by kernel_rfl)]
    go_simp
    (with_reducible refine (clone_at A c 64 b X0 HBL.out.symm (HR.out.below HB.out) HSV.out hbl).mono ?_)
    rintro e X1 ⟨vb, rfl, hob, hbel⟩
    obtain ⟨Ab, cb, rfl, hsvb, hrbb⟩ := hob.reads
    have hap : ∀ ad, Ab = some ad → V.heap.size ≤ ad.block := fun ad e => Nat.le_trans HB.out.size (hob.base_ ad.block (by subst e; rfl))
    have hB := bel_then HB.out hbel
    clear HB
    refine hK.out _ _ trivial (fun _ => ?_)
    have HB := Lib.hid hB
    have HSB := Lib.hid hsvb
    have HRBN := Lib.hid hrbb
    have HAP := Lib.hid hap
    clear hB hsvb hrbb hap hob hbel
    try simp only [Act.put, List.getElem_toArray, List.getElem_cons_zero, List.getElem_cons_succ, List.setIfInBounds_toArray, List.set_cons_zero, List.set_cons_succ]
    refine wpAnyH_take (i := 8) (v := ?_) (o_at HG 8 rfl) Gns (by kernel_rfl) (by kernel_rfl) (fun _ _ _ h => h) (Or.inl ⟨(by kernel_rfl), ?_⟩) (by first | trivial | assumption) ?_
    rotate_left
    · (intro w hSw; (try dsimp only at hSw); go_simp; try with_reducible rfl)
    try simp only [Act.put, List.getElem_toArray, List.getElem_cons_zero, List.getElem_cons_succ, List.setIfInBounds_toArray, List.set_cons_zero, List.set_cons_succ]
    refine wpAnyH_ready (rs := [4, 9]) (by kernel_rfl) (by simp) ?_
    refine AllReadyH.cons (o_at HG 4 rfl) ?_ (AllReadyH.cons (o_at HG 9 rfl) ?_ (AllReadyH.nil))
    · intro K' hK
      have hc1 : X1.cell? ⟨gd, 2, none⟩ = some v := (HB.out.cell (World.block_lt_of_cell? _ _ HC2.out)).trans HC2.out
      rw [if_pos (by kernel_rfl)]
      go_simp
      clear hc1
      refine hK.out _ _ trivial (fun _ => ?_)
      try simp only [Act.put, List.getElem_toArray, List.getElem_cons_zero, List.getElem_cons_succ, List.setIfInBounds_toArray, List.set_cons_zero, List.set_cons_succ]
      refine wpAnyH_ready (rs := [9]) (by kernel_rfl) (by simp) ?_
      refine AllReadyH.cons (o_at HG 9 rfl) ?_ (AllReadyH.nil)
      · intro K' hK
        rw [if_pos (by kernel_rfl)]
        go_simp
        have hB : Below V.heap.size V (X1.alloc (.cells #[.int .i64 at', .slice Ab b.length cb] 94)) := bel_alloc HB.out _
        have hN : ∀ j u, [Value.int .i64 at', .slice Ab b.length cb][j]? = some u → (X1.alloc (.cells #[.int .i64 at', .slice Ab b.length cb] 94)).cell? ((⟨X1.heap.size, 0, none⟩ : Addr).add j) = some u := fun j u hu => cell_alloc _ _ _ _ _ rfl j u (by simpa using hu)
        have hR : RB (X1.alloc (.cells #[.int .i64 at', .slice Ab b.length cb] 94)) Ab b := HRBN.out.alloc _
        refine hK.out _ _ trivial (fun _ => ?_)
        clear HB HRBN
        have HB := Lib.hid hB
        have HN := Lib.hid hN
        have HRBN := Lib.hid hR
        clear hB hN hR
        generalize (X1.alloc (.cells #[.int .i64 at', .slice Ab b.length cb] 94)) = X2 at *
        generalize X1.heap.size = k40 at *
        try simp only [Act.put, List.getElem_toArray, List.getElem_cons_zero, List.getElem_cons_succ, List.setIfInBounds_toArray, List.set_cons_zero, List.set_cons_succ]
        refine wpAnyH_ready (rs := [10]) (by kernel_rfl) (by simp) ?_
        refine AllReadyH.cons (o_at HG 10 rfl) ?_ (AllReadyH.nil)
        · intro K' hK
          refine step_app (by kernel_rfl) _ _ 77 rfl 0 94 z94 2 32 Try.underlying77 hz94 hzs94 (by decide) v k (rowW d.cache) rfl ?_ (some ⟨k40, 0, none⟩) 1 1 [.int .i64 at', .slice Ab b.length cb] rfl rfl (fun e => by cases e) (fun _ => ⟨_, rfl, HN.out⟩) (by intro u hu; simp only [List.mem_cons, List.not_mem_nil, or_false] at hu; rcases hu with rfl | rfl <;> rfl) (by unfold maxLen; omega) (by omega) (Nat.zero_le _) ?_
          · exact own_keep HOWN.out fun j hj => HB.out.block j (HOWN.out.lt j hj).2
          intro v1 X3 ho hg hv
          have hfin := HFIN.out X2 X3 v1 Ab cb HB.out ho hg hv HRBN.out HAP.out HSB.out
          have hz2 : X3.frozen? ⟨gd, 2, none⟩ = false := hfin.1
          have hc2 : X3.cell? ⟨gd, 2, none⟩ = some v := hfin.2.1
          have HEND := Lib.hid hfin.2.2
          clear ho hg hv hfin HB HRBN HN
          refine hK.out _ _ trivial (fun _ => ?_)
          try simp only [Act.put, List.getElem_toArray, List.getElem_cons_zero, List.getElem_cons_succ, List.setIfInBounds_toArray, List.set_cons_zero, List.set_cons_succ]
          refine wpAnyH_take (i := 11) (v := ?_) (o_at HG 11 rfl) Gns (by kernel_rfl) (by kernel_rfl) (fun _ _ _ h => h) (Or.inl ⟨(by kernel_rfl), ?_⟩) (by first | trivial | assumption) ?_
          rotate_left
          · (intro w hSw; (try dsimp only at hSw); go_simp; try with_reducible rfl)
          try simp only [Act.put, List.getElem_toArray, List.getElem_cons_zero, List.getElem_cons_succ, List.setIfInBounds_toArray, List.set_cons_zero, List.set_cons_succ]
          refine wpAnyH_take (i := 12) (v := ?_) (o_at HG 12 rfl) Gns (by kernel_rfl) (by kernel_rfl) (fun _ _ _ h => h) (Or.inl ⟨(by kernel_rfl), ?_⟩) (by first | trivial | assumption) ?_
          rotate_left
          · (intro w hSw; (try dsimp only at hSw); go_simp; try with_reducible rfl)
          try simp only [Act.put, List.getElem_toArray, List.getElem_cons_zero, List.getElem_cons_succ, List.setIfInBounds_toArray, List.set_cons_zero, List.set_cons_succ]
          refine wpAnyH_ready (rs := [13]) (by kernel_rfl) (by simp) ?_
          refine AllReadyH.cons (o_at HG 13 rfl) ?_ (AllReadyH.nil)
          · intro K' hK
            obtain ⟨Av, cv, hvv⟩ := HEND.out.1
            subst hvv
            rw [if_pos (by kernel_rfl)]
            go_simp
            clear hz2 hc2
            refine hK.out _ _ trivial (fun _ => ?_)
            try simp only [Act.put, List.getElem_toArray, List.getElem_cons_zero, List.getElem_cons_succ, List.setIfInBounds_toArray, List.set_cons_zero, List.set_cons_succ]
            refine wpAnyH_done (by kernel_rfl) ?_ _
            go_wp2
            go_ret
            obtain ⟨col', st, hd⟩ := HEND.out.2
            rw [HD.out] at hd
            rw [asked_cache] at hd
            exact ⟨rfl, col', _, _, _, HST.out.trans st, hd⟩
    · intro K' hK
      rw [if_pos (by kernel_rfl)]
      go_simp
      have hB : Below V.heap.size V (X1.alloc (.cells #[.int .i64 at', .slice Ab b.length cb] 94)) := bel_alloc HB.out _
      have hN : ∀ j u, [Value.int .i64 at', .slice Ab b.length cb][j]? = some u → (X1.alloc (.cells #[.int .i64 at', .slice Ab b.length cb] 94)).cell? ((⟨X1.heap.size, 0, none⟩ : Addr).add j) = some u := fun j u hu => cell_alloc _ _ _ _ _ rfl j u (by simpa using hu)
      have hR : RB (X1.alloc (.cells #[.int .i64 at', .slice Ab b.length cb] 94)) Ab b := HRBN.out.alloc _
      refine hK.out _ _ trivial (fun _ => ?_)
      clear HB HRBN
      have HB := Lib.hid hB
      have HN := Lib.hid hN
      have HRBN := Lib.hid hR
      clear hB hN hR
      generalize (X1.alloc (.cells #[.int .i64 at', .slice Ab b.length cb] 94)) = X2 at *
      generalize X1.heap.size = k40 at *
      try simp only [Act.put, List.getElem_toArray, List.getElem_cons_zero, List.getElem_cons_succ, List.setIfInBounds_toArray, List.set_cons_zero, List.set_cons_succ]
      refine wpAnyH_ready (rs := [4]) (by kernel_rfl) (by simp) ?_
      refine AllReadyH.cons (o_at HG 4 rfl) ?_ (AllReadyH.nil)
      · intro K' hK
        have hc1 : X2.cell? ⟨gd, 2, none⟩ = some v := (HB.out.cell (World.block_lt_of_cell? _ _ HC2.out)).trans HC2.out
        rw [if_pos (by kernel_rfl)]
        go_simp
        clear hc1
        refine hK.out _ _ trivial (fun _ => ?_)
        try simp only [Act.put, List.getElem_toArray, List.getElem_cons_zero, List.getElem_cons_succ, List.setIfInBounds_toArray, List.set_cons_zero, List.set_cons_succ]
        refine wpAnyH_ready (rs := [10]) (by kernel_rfl) (by simp) ?_
        refine AllReadyH.cons (o_at HG 10 rfl) ?_ (AllReadyH.nil)
        · intro K' hK
          refine step_app (by kernel_rfl) _ _ 77 rfl 0 94 z94 2 32 Try.underlying77 hz94 hzs94 (by decide) v k (rowW d.cache) rfl ?_ (some ⟨k40, 0, none⟩) 1 1 [.int .i64 at', .slice Ab b.length cb] rfl rfl (fun e => by cases e) (fun _ => ⟨_, rfl, HN.out⟩) (by intro u hu; simp only [List.mem_cons, List.not_mem_nil, or_false] at hu; rcases hu with rfl | rfl <;> rfl) (by unfold maxLen; omega) (by omega) (Nat.zero_le _) ?_
          · exact own_keep HOWN.out fun j hj => HB.out.block j (HOWN.out.lt j hj).2
          intro v1 X3 ho hg hv
          have hfin := HFIN.out X2 X3 v1 Ab cb HB.out ho hg hv HRBN.out HAP.out HSB.out
          have hz2 : X3.frozen? ⟨gd, 2, none⟩ = false := hfin.1
          have hc2 : X3.cell? ⟨gd, 2, none⟩ = some v := hfin.2.1
          have HEND := Lib.hid hfin.2.2
          clear ho hg hv hfin HB HRBN HN
          refine hK.out _ _ trivial (fun _ => ?_)
          try simp only [Act.put, List.getElem_toArray, List.getElem_cons_zero, List.getElem_cons_succ, List.setIfInBounds_toArray, List.set_cons_zero, List.set_cons_succ]
          refine wpAnyH_take (i := 11) (v := ?_) (o_at HG 11 rfl) Gns (by kernel_rfl) (by kernel_rfl) (fun _ _ _ h => h) (Or.inl ⟨(by kernel_rfl), ?_⟩) (by first | trivial | assumption) ?_
          rotate_left
          · (intro w hSw; (try dsimp only at hSw); go_simp; try with_reducible rfl)
          try simp only [Act.put, List.getElem_toArray, List.getElem_cons_zero, List.getElem_cons_succ, List.setIfInBounds_toArray, List.set_cons_zero, List.set_cons_succ]
          refine wpAnyH_take (i := 12) (v := ?_) (o_at HG 12 rfl) Gns (by kernel_rfl) (by kernel_rfl) (fun _ _ _ h => h) (Or.inl ⟨(by kernel_rfl), ?_⟩) (by first | trivial | assumption) ?_
          rotate_left
          · (intro w hSw; (try dsimp only at hSw); go_simp; try with_reducible rfl)
          try simp only [Act.put, List.getElem_toArray, List.getElem_cons_zero, List.getElem_cons_succ, List.setIfInBounds_toArray, List.set_cons_zero, List.set_cons_succ]
          refine wpAnyH_ready (rs := [13]) (by kernel_rfl) (by simp) ?_
          refine AllReadyH.cons (o_at HG 13 rfl) ?_ (AllReadyH.nil)
          · intro K' hK
            obtain ⟨Av, cv, hvv⟩ := HEND.out.1
            subst hvv
            rw [if_pos (by kernel_rfl)]
            go_simp
            clear hz2 hc2
            refine hK.out _ _ trivial (fun _ => ?_)
            try simp only [Act.put, List.getElem_toArray, List.getElem_cons_zero, List.getElem_cons_succ, List.setIfInBounds_toArray, List.set_cons_zero, List.set_cons_succ]
            refine wpAnyH_done (by kernel_rfl) ?_ _
            go_wp2
            go_ret
            obtain ⟨col', st, hd⟩ := HEND.out.2
            rw [HD.out] at hd
            rw [asked_cache] at hd
            exact ⟨rfl, col', _, _, _, HST.out.trans st, hd⟩
end Go.Proofs.Ytdldclakkplliaa
