/- The walk of does: a step of a journal. Conditions: none. -/
import Derived.Test.YtdldclakkplliaaJShows
import Derived.Test.YtdldclakkplliaaUse
namespace Go.Proofs.Ytdldclakkplliaa
set_option linter.unusedVariables false
set_option linter.unusedSimpArgs false
open Go.RowKit

def DoesR (d : DK) (j : JK) (sk n k : Int) (x : Int) (d' : DK) (j' : JK) : Prop :=
  (sk = 1 ∧ AppR d j (datB n k) x d' j') ∨ (sk = 2 ∧ ResR d j (datB n k) x d' j') ∨ (sk ≠ 1 ∧ sk ≠ 2 ∧ x = 0 ∧ d' = d ∧ j' = j)
def JDoesQ (id idj gd mb gj : Nat) (d : DK) (j : JK) (sk n k : Int) (w : World) (col : Nat → Nat) (e : Ending) (w' : World) : Prop :=
  ∃ x d' j' col', e = .returned (.int .i64 x) ∧ Path (Two id idj) w col w' col' ∧ DiskAt w' col' id gd mb d' ∧ JAt w' col' idj gj gd j' ∧ DoesR d j sk n k x d' j'
theorem datB_le (n k : Int) : (datB n k).length ≤ 300 := by rw [datB_len]; omega
set_option maxRecDepth 100000 in
set_option maxHeartbeats 4000000 in
theorem jdoes_any (id idj gd mb gj : Nat) (d : DK) (j : JK) (a : Nat) (sk n k : Int) (w : World) (col : Nat → Nat) (hd : DiskAt w col id gd mb d) (hj : JAt w col idj gj gd j) (h0 : id ≠ 0) (hidj : idj ≠ 0) (hne : id ≠ idj) (hf : d.fits a) (ha : a ≤ 400000) (hm : d.m + d.cache.length ≤ a)
    (hn : 8 ≤ d.n) (hh : j.half ≤ 1) (hnum : j.number ≤ 1000000000) (he : j.endp ≤ d.n / 2 * 64) (hrn : j.recs.length ≤ 1000000) (hdead : j.dead = false) (hwn : -9223372036854775808 ≤ n ∧ n ≤ 9223372036854775807) :
    Calls Try.prog 23 #[.pointer (some ⟨gj, 0, none⟩), .agg #[.int .i64 sk, .int .i64 n, .int .i64 k]] w (JDoesQ id idj gd mb gj d j sk n k w col) := by
  obtain ⟨q, hq⟩ : ∃ q, q = (n % 300).toNat := ⟨_, rfl⟩
  obtain ⟨B, hB⟩ : ∃ B, B = datB n k := ⟨_, rfl⟩
  have hl : B.length = q := by rw [hB, datB_len, hq]
  have hq3 : q ≤ 300 := by omega
  have HDATA : Hid (∀ X, Calls Try.prog 39 #[.agg #[.int .i64 sk, .int .i64 n, .int .i64 k]] X (NewB X q B)) := Lib.hid (fun X => by rw [hB, hq]; exact data_any sk n k X hwn)
  have HAPP : Hid (∀ (X Y : World), Below w.heap.size w X → Below X.heap.size X Y → ∀ A c, SV A q c → RB Y A B → (∀ ad, A = some ad → X.heap.size ≤ ad.block) → Calls Try.prog 17 #[.pointer (some ⟨gj, 0, none⟩), .slice A q c] Y fun e w' => ∃ x d' j' col', e = .returned (.int .i64 x) ∧ Path (Two id idj) w col w' col' ∧ DiskAt w' col' id gd mb d' ∧ JAt w' col' idj gj gd j' ∧ AppR d j B x d' j') := Lib.hid (fun X Y hX hY A c hsv hr hfr => by
    have hb := bel_then hX hY
    have hc := append_any id idj gd mb gj d j a A c B Y _ ((hd.grow hX (fun _ => 0)).grow hY (fun _ => 0)) ((hj.grow hX (fun _ => 0)).grow hY (fun _ => 0)) h0 hidj hne ⟨h0.symm, hidj.symm⟩ (RC.new 0 hr hfr) (by rw [hl]; exact hsv) hf ha hm hn hh hnum he hrn hdead (by omega)
    rw [hl] at hc
    refine hc.mono ?_
    rintro e w' ⟨x, d', j', col', he, p, h1, h2, h3⟩
    exact ⟨x, d', j', col', he, (Path.grow (Path.grow .refl hX) hY).trans p, h1, h2, h3⟩)
  have HRES : Hid (∀ (X Y : World), Below w.heap.size w X → Below X.heap.size X Y → ∀ A c, SV A q c → RB Y A B → (∀ ad, A = some ad → X.heap.size ≤ ad.block) → Calls Try.prog 16 #[.pointer (some ⟨gj, 0, none⟩), .slice A q c] Y fun e w' => ∃ x d' j' col', e = .returned (.int .i64 x) ∧ Path (Two id idj) w col w' col' ∧ DiskAt w' col' id gd mb d' ∧ JAt w' col' idj gj gd j' ∧ ResR d j B x d' j') := Lib.hid (fun X Y hX hY A c hsv hr hfr => by
    have hb := bel_then hX hY
    have hc := reset_any id idj gd mb gj d j a A c B Y _ ((hd.grow hX (fun _ => 0)).grow hY (fun _ => 0)) ((hj.grow hX (fun _ => 0)).grow hY (fun _ => 0)) h0 hidj hne ⟨h0.symm, hidj.symm⟩ (RC.new 0 hr hfr) (by rw [hl]; exact hsv) hf ha hm hn hh hnum hdead (by omega)
    rw [hl] at hc
    refine hc.mono ?_
    rintro e w' ⟨x, d', j', col', he, p, h1, h2, h3⟩
    exact ⟨x, d', j', col', he, (Path.grow (Path.grow .refl hX) hY).trans p, h1, h2, h3⟩)
  have HD := Lib.hid hd
  have HJ := Lib.hid hj
  obtain ⟨W0, hW0⟩ : ∃ W, W = w.alloc (.cells #[.int .i64 sk, .int .i64 n, .int .i64 k] 46) := ⟨_, rfl⟩
  have hb0 : Below w.heap.size w W0 := by rw [hW0]; exact bel_alloc (Below.refl _ _) _
  have HB0 := Lib.hid hb0
  have hg0 : W0.heap[w.heap.size]? = some (.cells #[.int .i64 sk, .int .i64 n, .int .i64 k] 46 (0, 0)) := by rw [hW0]; exact heap_alloc_new w _
  have y0 : W0.cell? ⟨w.heap.size, 0, none⟩ = some (.int .i64 sk) := by rw [cell_of_row _ _ 0 _ _ _ hg0]; rfl
  have y1 : W0.cell? ⟨w.heap.size, 1, none⟩ = some (.int .i64 n) := by rw [cell_of_row _ _ 1 _ _ _ hg0]; rfl
  have y2 : W0.cell? ⟨w.heap.size, 2, none⟩ = some (.int .i64 k) := by rw [cell_of_row _ _ 2 _ _ _ hg0]; rfl
  have HBD := Lib.hid hB
  clear hd hj hq hl hf hm he hB hb0 hg0
  rw [hW0] at y0 y1 y2
  by_cases k1 : sk = 1
  · subst k1
    go_enter Try.func23, Try.ntmps23
    go_wp2_with fail
    rw [← hW0]
    refine (HDATA.out _).mono ?_
    rintro e w1 ⟨A1, c1, rfl, sv1, rb1, fr1, hb1⟩
    have HA := Lib.hid (HAPP.out W0 w1 HB0.out hb1 A1 c1 sv1 rb1 fr1)
    clear y0 y1 y2 sv1 rb1 fr1 hb1 hW0
    go_wp2_with fail
    refine HA.out.mono ?_
    rintro e w2 ⟨x, d', j', col', rfl, p, h1, h2, h3⟩
    have HQ : Hid (JDoesQ id idj gd mb gj d j 1 n k w col (.returned (.int .i64 x)) w2) := Lib.hid ⟨x, d', j', col', rfl, p, h1, h2, .inl ⟨rfl, by rw [← HBD.out]; exact h3⟩⟩
    clear p h1 h2 h3
    go_wp2
    go_ret
    exact HQ.out
  · by_cases k2 : sk = 2
    · subst k2
      clear k1
      go_enter Try.func23, Try.ntmps23
      go_wp2_with fail
      rw [← hW0]
      refine (HDATA.out _).mono ?_
      rintro e w1 ⟨A1, c1, rfl, sv1, rb1, fr1, hb1⟩
      have HA := Lib.hid (HRES.out W0 w1 HB0.out hb1 A1 c1 sv1 rb1 fr1)
      clear y0 y1 y2 sv1 rb1 fr1 hb1 hW0
      go_wp2_with fail
      refine HA.out.mono ?_
      rintro e w2 ⟨x, d', j', col', rfl, p, h1, h2, h3⟩
      have HQ : Hid (JDoesQ id idj gd mb gj d j 2 n k w col (.returned (.int .i64 x)) w2) := Lib.hid ⟨x, d', j', col', rfl, p, h1, h2, .inr (.inl ⟨rfl, by rw [← HBD.out]; exact h3⟩)⟩
      clear p h1 h2 h3
      go_wp2
      go_ret
      exact HQ.out
    · have f1 : (sk == 1) = false := by simpa using k1
      have f2 : (sk == 2) = false := by simpa using k2
      have HK : Hid (sk ≠ 1 ∧ sk ≠ 2) := Lib.hid ⟨k1, k2⟩
      clear k1 k2
      go_enter Try.func23, Try.ntmps23
      go_wp2
      go_ret
      rw [← hW0]
      exact ⟨0, d, j, _, rfl, .grow .refl HB0.out, HD.out.grow HB0.out _, HJ.out.grow HB0.out _, .inr (.inr ⟨HK.out.1, HK.out.2, rfl, rfl, rfl⟩)⟩

/-- What a disk holds: a half, a number, a base, records. -/
abbrev Held (d : DK) (half number : Nat) (base : List UInt8) (recs : List (List UInt8)) (endp : Nat) : Prop := HInv (vw d) (d.n / 2) half number base recs endp
structure JS (w : World) (col : Nat → Nat) (id idj gd mb gj a : Nat) (d : DK) (j : JK) : Prop where
  disk : DiskAt w col id gd mb d
  jr : JAt w col idj gj gd j
  calm : Calm d a
  inv : Held d j.half j.number j.base.b (j.recs.map (·.b)) j.endp
  dead : j.dead = false
theorem JS.path {J : Nat → Prop} {w w' : World} {col col' : Nat → Nat} {id idj gd mb gj a : Nat} {d : DK} {j : JK} (h : JS w col id idj gd mb gj a d j) (p : Path J w col w' col') (hJ : ∀ i, J i → i ≠ 0 ∧ i ≠ id ∧ i ≠ idj) : JS w' col' id idj gd mb gj a d j :=
  ⟨h.disk.path p fun i hi => ⟨(hJ i hi).1, (hJ i hi).2.1⟩, h.jr.path p fun i hi => ⟨(hJ i hi).1, (hJ i hi).2.2⟩, h.calm, h.inv, h.dead⟩
theorem JS.grow {w w' : World} {col : Nat → Nat} {id idj gd mb gj a : Nat} {d : DK} {j : JK} (h : JS w col id idj gd mb gj a d j) (hb : Below w.heap.size w w') (new : Nat → Nat) : JS w' (paint w col new) id idj gd mb gj a d j :=
  ⟨h.disk.grow hb new, h.jr.grow hb new, h.calm, h.inv, h.dead⟩
theorem Calm.more {d : DK} {a b : Nat} (h : Calm d a) (hab : a ≤ b) : Calm d b := ⟨h.calm, h.cache, h.dom, DiskAt.fits' h.fits hab, Nat.le_trans h.m hab⟩
theorem JS.more {w : World} {col : Nat → Nat} {id idj gd mb gj a b : Nat} {d : DK} {j : JK} (h : JS w col id idj gd mb gj a d j) (hab : a ≤ b) : JS w col id idj gd mb gj b d j := ⟨h.disk, h.jr, h.calm.more hab, h.inv, h.dead⟩
theorem Calm.new (n : Nat) (hn : 8 ≤ n ∧ n ≤ 65536) : Calm (newDK n) 0 := ⟨⟨rfl, rfl⟩, rfl, hn, newDK_fits n, Nat.le_refl _⟩
theorem Pre.grows {H : List UInt8} {number k e e2 : Nat} {rs : List (List UInt8)} (h : Pre H number k e rs e2) : e + 9 * rs.length ≤ e2 ∧ ∀ r ∈ rs, r.length ≤ 60000 := by
  induction h with
  | nil => exact ⟨by simp, fun r hr => by cases hr⟩
  | snoc hp hr ih =>
    rename_i rs e1 b
    have hpl := placeN_le e1
    have hle : e1 ≤ placeN e1 := by unfold placeN; split <;> omega
    refine ⟨by rw [List.length_append, List.length_singleton]; omega, fun r hr2 => ?_⟩
    rcases List.mem_append.1 hr2 with hr2 | hr2
    · exact ih.2 r hr2
    · rw [List.mem_singleton] at hr2
      subst hr2
      unfold recAt at hr
      split at hr
      · cases hr
      · split at hr
        · cases hr
        · split at hr
          · cases hr
          · split at hr
            · cases hr
            · cases hr
              rw [List.length_take]
              omega
theorem Held.len {d : DK} {half number endp : Nat} {base : List UInt8} {recs : List (List UInt8)} (h : Held d half number base recs endp) (hn : d.n ≤ 65536) : base.length ≤ 10000000 ∧ recs.length ≤ 1000000 ∧ (∀ r ∈ recs, r.length ≤ 60000) ∧ endp ≤ 10000000 := by
  have h1 := h.recs.grows
  have h2 := h.fit
  exact ⟨by omega, by omega, h1.2, by omega⟩
theorem JS.len {w : World} {col : Nat → Nat} {id idj gd mb gj a : Nat} {d : DK} {j : JK} (h : JS w col id idj gd mb gj a d j) : j.base.b.length ≤ 10000000 ∧ j.recs.length ≤ 1000000 ∧ (∀ s ∈ j.recs, s.b.length ≤ 1000000) ∧ j.endp ≤ 10000000 := by
  have := Held.len h.inv h.calm.dom.2
  rw [List.length_map] at this
  exact ⟨this.1, this.2.1, fun s hs => Nat.le_trans (this.2.2.1 _ (List.mem_map_of_mem (f := (·.b)) hs)) (by omega), this.2.2.2⟩
theorem open_js (id idj gd mb a : Nat) (d : DK) (half number : Nat) (base : List UInt8) (recs : List (List UInt8)) (endp : Nat) (w : World) (col : Nat → Nat) (h : DiskAt w col id gd mb d) (h0 : id ≠ 0) (hidj : idj ≠ 0) (hne : id ≠ idj) (hc : Calm d a) (hi : Held d half number base recs endp) :
    Calls Try.prog 15 #[.pointer (some ⟨gd, 0, none⟩)] w fun e w' => ∃ gj j col', e = .returned (.tuple #[.pointer (some ⟨gj, 0, none⟩), .int .i64 0]) ∧ Path (Only idj) w col w' col' ∧ JS w' col' id idj gd mb gj a d j ∧ j.half = half ∧ j.number = number ∧ j.base.b = base ∧ j.recs.map (·.b) = recs ∧ j.endp = endp := by
  refine (open_any id idj gd mb d w col h h0 hidj hne hc.dom.1 (by rw [hc.cache]; simp)).mono ?_
  rintro e w' ⟨gj, j, col', rfl, p, hj, ho⟩
  obtain ⟨o1, o2, o3, o4, o5, o6⟩ := hi.opens ho
  refine ⟨gj, j, col', rfl, p, ⟨h.path p (fun i hi => ?_), hj, hc, by rw [o1, o2, o3, o4, o5]; exact hi, o6⟩, o1, o2, o3, o4, o5⟩
  have : i = idj := hi
  omega
theorem does_js (id idj gd mb gj a : Nat) (d : DK) (j : JK) (sk n k : Int) (w : World) (col : Nat → Nat) (h : JS w col id idj gd mb gj a d j) (h0 : id ≠ 0) (hidj : idj ≠ 0) (hne : id ≠ idj) (ha : a ≤ 400000) (hnum : j.number ≤ 1000000000) (hwn : -9223372036854775808 ≤ n ∧ n ≤ 9223372036854775807) :
    Calls Try.prog 23 #[.pointer (some ⟨gj, 0, none⟩), .agg #[.int .i64 sk, .int .i64 n, .int .i64 k]] w fun e w' => ∃ (x : Int) (d' : DK) (j' : JK) (col' : Nat → Nat), e = .returned (.int .i64 x) ∧ Path (Two id idj) w col w' col' ∧ JS w' col' id idj gd mb gj (a + 1000) d' j' ∧ d'.n = d.n ∧
      ((x = 4 ∧ d' = d ∧ j' = j ∧ ((sk = 1 ∧ roomN d.n j.endp < (datB n k).length) ∨ (sk = 2 ∧ d.n / 2 * 64 < (datB n k).length + 64))) ∨
       (x = 0 ∧ sk = 1 ∧ ((datB n k).length : Int) ≤ roomN d.n j.endp ∧ j'.number = j.number ∧ j'.base.b = j.base.b ∧ j'.recs.map (·.b) = j.recs.map (·.b) ++ [datB n k]) ∨
       (x = 0 ∧ sk = 2 ∧ (datB n k).length + 64 ≤ d.n / 2 * 64 ∧ j'.number = j.number + 1 ∧ j'.base.b = datB n k ∧ j'.recs = []) ∨
       (x = 0 ∧ sk ≠ 1 ∧ sk ≠ 2 ∧ d' = d ∧ j' = j)) := by
  have hB := datB_le n k
  refine (jdoes_any id idj gd mb gj d j a sk n k w col h.disk h.jr h0 hidj hne h.calm.fits ha (by rw [h.calm.cache]; simpa using h.calm.m) h.calm.dom.1 h.inv.hh hnum h.inv.fit h.len.2.1 h.dead hwn).mono ?_
  rintro e w' ⟨x, d', j', col', rfl, p, h1, h2, h3⟩
  rcases h3 with ⟨hk, h3⟩ | ⟨hk, h3⟩ | ⟨hk1, hk2, rfl, rfl, rfl⟩
  · rcases append_calm h.calm h.inv (by omega) h3 with ⟨rfl, c1, rfl, rfl⟩ | ⟨rfl, c1, c2, c3, c4, c5, c6, c7, c8, c9, c10⟩
    · exact ⟨4, d', j', col', rfl, p, ⟨h1, h2, h.calm.more (by omega), h.inv, h.dead⟩, rfl, .inl ⟨rfl, rfl, rfl, .inl ⟨hk, c1⟩⟩⟩
    · exact ⟨0, d', j', col', rfl, p, ⟨h1, h2, c2.more (by omega), c9, c7.trans h.dead⟩, c3, .inr (.inl ⟨rfl, hk, c1, c5, by rw [c6], c10⟩)⟩
  · rcases reset_calm h.calm h.inv (by omega) (by omega) h3 with ⟨rfl, c1, rfl, rfl⟩ | ⟨rfl, c1, c2, c3, c4, c5, c6, c7, c8, c9, c10⟩
    · exact ⟨4, d', j', col', rfl, p, ⟨h1, h2, h.calm.more (by omega), h.inv, h.dead⟩, rfl, .inl ⟨rfl, rfl, rfl, .inr ⟨hk, c1⟩⟩⟩
    · exact ⟨0, d', j', col', rfl, p, ⟨h1, h2, c2.more (by omega), c9, c7.trans h.dead⟩, c3, .inr (.inr (.inl ⟨rfl, hk, c1, c5, c6, c10⟩))⟩
  · exact ⟨0, d', j', col', rfl, p, ⟨h1, h2, h.calm.more (by omega), h.inv, h.dead⟩, rfl, .inr (.inr (.inr ⟨rfl, hk1, hk2, rfl, rfl⟩))⟩
theorem crash_js (id id2 gd mb a : Nat) (d : DK) (A : Option Addr) (c : Nat) (ps : List Int) (half number : Nat) (base : List UInt8) (recs : List (List UInt8)) (endp : Nat) (w : World) (col : Nat → Nat) (h : DiskAt w col id gd mb d) (hp2 : ∀ (w' : World) (col' : Nat → Nat), Step id2 w col w' col' → RI w' A ps) (hid : id2 ≠ 0) (hne : id2 ≠ id) (hc : Calm d a) (ha : a ≤ 1000000) (hi : Held d half number base recs endp) (hpb : ∀ x ∈ ps, -9223372036854775808 ≤ x ∧ x ≤ 9223372036854775807) :
    Calls Try.prog 20 #[.pointer (some ⟨gd, 0, none⟩), .slice A ps.length c] w fun e w' => ∃ gd2 mb2 d2 col', e = .returned (.pointer (some ⟨gd2, 0, none⟩)) ∧ Step id2 w col w' col' ∧ DiskAt w' col' id2 gd2 mb2 d2 ∧ Calm d2 a ∧ Held d2 half number base recs endp ∧ d2.n = d.n := by
  obtain ⟨v, hv⟩ := h
  refine (crash_walk id id2 gd mb v d A c ps w col hv hp2 hid hne (by rw [hc.cache]; simp) (by rw [hc.cache]; have := hc.m; simp; omega) hpb).mono ?_
  rintro e w' ⟨gd2, mb3, f, col', rfl, st, h2, hf⟩
  rw [hc.cache] at h2 hf
  have hm := hc.m
  have hvw : ∀ i, vw ⟨d.n, f, [], false, false, 0, 0, d.m + 0⟩ i = vw d i := fun i => by
    have := hf (i : Int)
    show secB ((lastW [] (i : Int)).or (f i)) = secB ((lastW d.cache (i : Int)).or (d.safe i))
    rw [hc.cache]
    exact this
  refine ⟨gd2, mb3, _, col', rfl, st, h2, ⟨⟨rfl, rfl⟩, rfl, hc.dom, ⟨by show -(a : Int) ≤ 0; omega, by show (0 : Int) ≤ _; omega, Int.le_refl _, by show (0 : Int) ≤ a; omega, Nat.zero_le _⟩, by show d.m + 0 ≤ a; omega⟩, ?_, rfl⟩
  have : vw ⟨d.n, f, [], false, false, 0, 0, d.m + 0⟩ = vw d := funext hvw
  show HInv (vw ⟨d.n, f, [], false, false, 0, 0, d.m + 0⟩) _ _ _ _ _ _
  rw [this]
  exact hi
theorem base_js {w : World} {col : Nat → Nat} {id idj gd mb gj a : Nat} {d : DK} {j : JK} (h : JS w col id idj gd mb gj a d j) : Calls Try.prog 18 #[.pointer (some ⟨gj, 0, none⟩)] w (CloneP j.base.b w) := by
  obtain ⟨vr, hv⟩ := h.jr
  exact base_any gj gd idj vr j w col hv (by have := h.len; omega)
theorem records_js {w : World} {col : Nat → Nat} {id idj gd mb gj a : Nat} {d : DK} {j : JK} (h : JS w col id idj gd mb gj a d j) : Calls Try.prog 19 #[.pointer (some ⟨gj, 0, none⟩)] w fun e w' => ∃ v rs, e = .returned v ∧ NewL w w' v (j.recs.map (·.b)) rs ∧ Below w.heap.size w w' := by
  obtain ⟨vr, hv⟩ := h.jr
  exact records_any gj gd idj vr j w col hv h.len.2.1 h.len.2.2.1
theorem dead_js {w : World} {col : Nat → Nat} {id idj gd mb gj a : Nat} {d : DK} {j : JK} (h : JS w col id idj gd mb gj a d j) : Calls Try.prog 25 #[.pointer (some ⟨gj, 0, none⟩)] w fun e w' => e = .returned (.bool false) ∧ w = w' := by
  obtain ⟨vr, hv⟩ := h.jr
  have := dead_any gj gd vr j w hv.obj
  rw [h.dead] at this
  exact this
theorem room_js {w : World} {col : Nat → Nat} {id idj gd mb gj a : Nat} {d : DK} {j : JK} (h : JS w col id idj gd mb gj a d j) : Calls Try.prog 38 #[.pointer (some ⟨gj, 0, none⟩)] w fun e w' => e = .returned (.int .i64 (roomN d.n j.endp)) ∧ Below w.heap.size w w' := by
  obtain ⟨vr, hv⟩ := h.jr
  obtain ⟨v, hd⟩ := h.disk
  exact room_any gj gd mb vr v j d w hv.obj hd.obj h.calm.dom.2 h.len.2.2.2
theorem shows_js {w : World} {col : Nat → Nat} {id idj gd mb gj a : Nat} {d : DK} {j : JK} (h : JS w col id idj gd mb gj a d j) (Ab Al : Option Addr) (cb cl : Nat) (bb : List UInt8) (ls : List (List UInt8)) (h1 : RB w Ab bb) (h2 : RL w Al ls) :
    Calls Try.prog 21 #[.pointer (some ⟨gj, 0, none⟩), .agg #[.slice Ab bb.length cb, .slice Al ls.length cl]] w fun e w' => e = .returned (.bool (decide (j.base.b = bb ∧ j.recs.map (·.b) = ls))) ∧ Below w.heap.size w w' := by
  obtain ⟨vr, hv⟩ := h.jr
  exact jshows_any gj gd idj vr j Ab Al cb cl bb ls w col hv h.len.2.1 h.len.2.2.1 h.len.1 h1 h2
theorem append_jsc (id idj gd mb gj a : Nat) (d : DK) (j : JK) (A : Option Addr) (c : Nat) (b : List UInt8) (w : World) (col : Nat → Nat) (h : JS w col id idj gd mb gj a d j) (h0 : id ≠ 0) (hidj : idj ≠ 0) (hne : id ≠ idj) {cl : Nat} (hcl : cl ≠ id ∧ cl ≠ idj) (hr : RC w col cl A b) (hsv : SV A b.length c) (ha : a ≤ 400000) (hnum : j.number ≤ 1000000000) (hb : b.length ≤ 60000) :
    Calls Try.prog 17 #[.pointer (some ⟨gj, 0, none⟩), .slice A b.length c] w fun e w' => ∃ (x : Int) (d' : DK) (j' : JK) (col' : Nat → Nat), e = .returned (.int .i64 x) ∧ Path (Two id idj) w col w' col' ∧ JS w' col' id idj gd mb gj (a + 1000) d' j' ∧ d'.n = d.n ∧
      ((x = 4 ∧ d' = d ∧ j' = j ∧ roomN d.n j.endp < b.length) ∨
       (x = 0 ∧ (b.length : Int) ≤ roomN d.n j.endp ∧ j'.number = j.number ∧ j'.base.b = j.base.b ∧ j'.endp = placeN j.endp + 9 + b.length ∧ j'.recs.map (·.b) = j.recs.map (·.b) ++ [b])) := by
  refine (append_any id idj gd mb gj d j a A c b w col h.disk h.jr h0 hidj hne hcl hr hsv h.calm.fits ha (by rw [h.calm.cache]; simpa using h.calm.m) h.calm.dom.1 h.inv.hh hnum h.inv.fit h.len.2.1 h.dead hb).mono ?_
  rintro e w' ⟨x, d', j', col', rfl, p, h1, h2, h3⟩
  rcases append_calm h.calm h.inv (by omega) h3 with ⟨rfl, c1, rfl, rfl⟩ | ⟨rfl, c1, c2, c3, c4, c5, c6, c7, c8, c9, c10⟩
  · exact ⟨4, d', j', col', rfl, p, ⟨h1, h2, h.calm.more (by omega), h.inv, h.dead⟩, rfl, .inl ⟨rfl, rfl, rfl, c1⟩⟩
  · exact ⟨0, d', j', col', rfl, p, ⟨h1, h2, c2.more (by omega), c9, c7.trans h.dead⟩, c3, .inr ⟨rfl, c1, c5, by rw [c6], c8, c10⟩⟩
theorem append_js (id idj gd mb gj a : Nat) (d : DK) (j : JK) (A : Option Addr) (c : Nat) (b : List UInt8) (w : World) (col : Nat → Nat) (h : JS w col id idj gd mb gj a d j) (h0 : id ≠ 0) (hidj : idj ≠ 0) (hne : id ≠ idj) (hr : RC w col 0 A b) (hsv : SV A b.length c) (ha : a ≤ 400000) (hnum : j.number ≤ 1000000000) (hb : b.length ≤ 60000) :
    Calls Try.prog 17 #[.pointer (some ⟨gj, 0, none⟩), .slice A b.length c] w fun e w' => ∃ (x : Int) (d' : DK) (j' : JK) (col' : Nat → Nat), e = .returned (.int .i64 x) ∧ Path (Two id idj) w col w' col' ∧ JS w' col' id idj gd mb gj (a + 1000) d' j' ∧ d'.n = d.n ∧
      ((x = 4 ∧ d' = d ∧ j' = j ∧ roomN d.n j.endp < b.length) ∨
       (x = 0 ∧ (b.length : Int) ≤ roomN d.n j.endp ∧ j'.number = j.number ∧ j'.base.b = j.base.b ∧ j'.endp = placeN j.endp + 9 + b.length ∧ j'.recs.map (·.b) = j.recs.map (·.b) ++ [b])) :=
  append_jsc id idj gd mb gj a d j A c b w col h h0 hidj hne ⟨h0.symm, hidj.symm⟩ hr hsv ha hnum hb
theorem reset_jsc (id idj gd mb gj a : Nat) (d : DK) (j : JK) (A : Option Addr) (c : Nat) (b : List UInt8) (w : World) (col : Nat → Nat) (h : JS w col id idj gd mb gj a d j) (h0 : id ≠ 0) (hidj : idj ≠ 0) (hne : id ≠ idj) {cl : Nat} (hcl : cl ≠ id ∧ cl ≠ idj) (hr : RC w col cl A b) (hsv : SV A b.length c) (ha : a ≤ 400000) (hnum : j.number ≤ 1000000000) (hb : b.length ≤ 60000) :
    Calls Try.prog 16 #[.pointer (some ⟨gj, 0, none⟩), .slice A b.length c] w fun e w' => ∃ (x : Int) (d' : DK) (j' : JK) (col' : Nat → Nat), e = .returned (.int .i64 x) ∧ Path (Two id idj) w col w' col' ∧ JS w' col' id idj gd mb gj (a + 1000) d' j' ∧ d'.n = d.n ∧
      ((x = 4 ∧ d' = d ∧ j' = j ∧ d.n / 2 * 64 < b.length + 64) ∨
       (x = 0 ∧ b.length + 64 ≤ d.n / 2 * 64 ∧ j'.number = j.number + 1 ∧ j'.base.b = b ∧ j'.endp = 64 + b.length ∧ j'.recs = [])) := by
  refine (reset_any id idj gd mb gj d j a A c b w col h.disk h.jr h0 hidj hne hcl hr hsv h.calm.fits ha (by rw [h.calm.cache]; simpa using h.calm.m) h.calm.dom.1 h.inv.hh hnum h.dead hb).mono ?_
  rintro e w' ⟨x, d', j', col', rfl, p, h1, h2, h3⟩
  rcases reset_calm h.calm h.inv (by omega) (by omega) h3 with ⟨rfl, c1, rfl, rfl⟩ | ⟨rfl, c1, c2, c3, c4, c5, c6, c7, c8, c9, c10⟩
  · exact ⟨4, d', j', col', rfl, p, ⟨h1, h2, h.calm.more (by omega), h.inv, h.dead⟩, rfl, .inl ⟨rfl, rfl, rfl, c1⟩⟩
  · exact ⟨0, d', j', col', rfl, p, ⟨h1, h2, c2.more (by omega), c9, c7.trans h.dead⟩, c3, .inr ⟨rfl, c1, c5, c6, c8, c10⟩⟩
theorem reset_js (id idj gd mb gj a : Nat) (d : DK) (j : JK) (A : Option Addr) (c : Nat) (b : List UInt8) (w : World) (col : Nat → Nat) (h : JS w col id idj gd mb gj a d j) (h0 : id ≠ 0) (hidj : idj ≠ 0) (hne : id ≠ idj) (hr : RC w col 0 A b) (hsv : SV A b.length c) (ha : a ≤ 400000) (hnum : j.number ≤ 1000000000) (hb : b.length ≤ 60000) :
    Calls Try.prog 16 #[.pointer (some ⟨gj, 0, none⟩), .slice A b.length c] w fun e w' => ∃ (x : Int) (d' : DK) (j' : JK) (col' : Nat → Nat), e = .returned (.int .i64 x) ∧ Path (Two id idj) w col w' col' ∧ JS w' col' id idj gd mb gj (a + 1000) d' j' ∧ d'.n = d.n ∧
      ((x = 4 ∧ d' = d ∧ j' = j ∧ d.n / 2 * 64 < b.length + 64) ∨
       (x = 0 ∧ b.length + 64 ≤ d.n / 2 * 64 ∧ j'.number = j.number + 1 ∧ j'.base.b = b ∧ j'.endp = 64 + b.length ∧ j'.recs = [])) :=
  reset_jsc id idj gd mb gj a d j A c b w col h h0 hidj hne ⟨h0.symm, hidj.symm⟩ hr hsv ha hnum hb
end Go.Proofs.Ytdldclakkplliaa
