/- The walk of Append. Conditions: none. -/
import Derived.Test.YtdldclakkplliaaJReads
namespace Go.Proofs.Ytdldclakkplliaa
set_option linter.unusedVariables false
set_option linter.unusedSimpArgs false
open Go.RowKit

noncomputable def G17a : Array Oper := regionOf Try.f17 8
theorem Gns17a : Region.noSelect G17a = true := by kernel_rfl
noncomputable def G17b : Array Oper := regionOf Try.f17 11
theorem Gns17b : Region.noSelect G17b = true := by kernel_rfl
noncomputable def G17c : Array Oper := regionOf Try.f17 14
theorem Gns17c : Region.noSelect G17c = true := by kernel_rfl
noncomputable def G17d : Array Oper := regionOf Try.f17 17
theorem Gns17d : Region.noSelect G17d = true := by kernel_rfl

theorem make_run (w : World) (n : Nat) (L : Int) (hL : L = (n : Int)) (hn : n ≤ 1000) : ∃ w', (Instr.makeSlice 22 (.int .i64 L) (.int .i64 L)).run Try.prog w = .ok (.slice (some ⟨w.heap.size, 0, none⟩) n n) w' ∧ OB w' w.heap.size 5 (.slice (some ⟨w.heap.size, 0, none⟩) n n) (List.replicate n 0) ∧ Below w.heap.size w w' := by
  subst hL
  obtain ⟨i, hi, hz⟩ := Option.map_eq_some_iff.1 info5
  simp only [Prod.mk.injEq] at hz
  obtain ⟨hz0, hz1, hz2⟩ := hz
  obtain ⟨w', hrun, r1, r2⟩ := run_make_full (P := Try.prog) w w.heap.size 22 5 i (.int .u8 0) 1 Try.underlying22 hi hz0 hz1 .i64 .i64 n (by rw [hz2]; omega) (by unfold maxLen; omega) (Nat.le_refl _)
  refine ⟨w', hrun, OB.mk' ?_, below_of_grown r2⟩
  have e1 : (madeCells (Value.int .u8 0).cells (n * 1)).toList = cellsOf (List.replicate n 0) := by
    rw [Nat.mul_one]
    have := toList_madeCells_one (.int .u8 0) n
    rw [show (Value.int .u8 0).cells = #[.int .u8 0] from rfl, this]
    simp [cellsOf]
  rw [e1] at r1
  rw [List.length_replicate]
  exact r1
def failJ (j : JK) (x : Int) : JK := { j with dead := j.dead || x == 7 }
theorem fails_any (gj gd idj : Nat) (vr : Value) (j : JK) (x : Int) (w : World) (col : Nat → Nat) (h : JV w col idj gj gd vr j) :
    Calls Try.prog 51 #[.pointer (some ⟨gj, 0, none⟩), .int .i64 x] w fun e w' => e = .returned (.int .i64 x) ∧ Step idj w col w' col ∧ JV w' col idj gj gd vr (failJ j x) := by
  have hg := h.obj
  have z6 := frozen_of_row _ _ 6 _ _ hg
  have c6 : w.cell? ⟨gj, 6, none⟩ = some (.bool j.dead) := by rw [cell_of_row _ _ 6 _ _ _ hg]; rfl
  have HP := Lib.hid (fun y : Bool => JV.put (j' := { j with dead := y }) h (keeps_set (j := 6) (u := .bool y) (Keeps.refl (fun k => k = gj) w) rfl) (by have := row_set (j := 6) (.bool y) hg; exact this) rfl h.sb)
  clear h hg
  by_cases hx : x = 7
  · subst hx
    have HE : Hid (failJ j 7 = { j with dead := true }) := Lib.hid (by unfold failJ; simp)
    rw [HE.out]
    cases hd : j.dead with
    | true =>
      rw [hd] at c6
      go_enter Try.func51, Try.ntmps51
      go_wp2
      go_ret
      exact ⟨rfl, HP.out true⟩
    | false =>
      rw [hd] at c6
      go_enter Try.func51, Try.ntmps51
      go_wp2
      go_ret
      exact ⟨rfl, HP.out true⟩
  · have hxb : (x == 7) = false := by simp [hx]
    have HE : Hid (failJ j x = { j with dead := j.dead }) := Lib.hid (by unfold failJ; rw [hxb, Bool.or_false])
    rw [HE.out]
    cases hd : j.dead with
    | true =>
      rw [hd] at c6
      have HEE : Hid (({ j with dead := true } : JK) = j) := Lib.hid (by cases j; cases hd; rfl)
      go_enter Try.func51, Try.ntmps51
      go_wp2
      go_ret
      have h1 := HP.out true
      rw [HEE.out] at h1
      exact ⟨rfl, h1⟩
    | false =>
      rw [hd] at c6
      have HEE : Hid (({ j with dead := false } : JK) = j) := Lib.hid (by cases j; cases hd; rfl)
      go_enter Try.func51, Try.ntmps51
      go_wp2
      go_ret
      have h1 := HP.out false
      rw [HEE.out] at h1
      exact ⟨rfl, h1⟩

def Two (id idj : Nat) (i : Nat) : Prop := i = id ∨ i = idj
theorem RL_below {w w' : World} {A : Option Addr} {ls : List (List UInt8)} (h : RL w A ls) (hb : Below w.heap.size w w') : RL w' A ls := h.below hb
theorem Path.kept {J : Nat → Prop} {w w' : World} {col col' : Nat → Nat} (p : Path J w col w' col') {k : Nat} (hk : k < w.heap.size) (hJ : ∀ j, J j → j ≠ col k) : w'.heap[k]? = w.heap[k]? ∧ col' k = col k ∧ w.heap.size ≤ w'.heap.size := by
  induction p with
  | refl => exact ⟨rfl, rfl, Nat.le_refl _⟩
  | step hj _ s ih =>
    obtain ⟨h1, h2, h3⟩ := ih
    exact ⟨(s.keeps.block k (by omega) (fun e => hJ _ hj (e.symm.trans h2))).trans h1, (s.same k (by omega)).trans h2, Nat.le_trans h3 s.keeps.size⟩
  | grow _ hb ih =>
    obtain ⟨h1, h2, h3⟩ := ih
    exact ⟨(hb.block k (by omega)).trans h1, (paint_old (by omega)).trans h2, Nat.le_trans h3 hb.size⟩
theorem own_mono_OB {w : World} {base base' : Nat} {e : TypeId} {v : Value} {bs : List UInt8} (h : OB w base e v bs) (hb : base' ≤ base) : OB w base' e v bs := OB.mk' (own_mono h.row hb)
def zero9 : List UInt8 := List.replicate 9 0
/-- A head of a record. -/
def leadB (number k : Nat) (b : List UInt8) : List UInt8 := sumN number k b ++ putN (b.length + 1) 4 ++ [165]
theorem leadB_len (number k : Nat) (b : List UInt8) : (leadB number k b).length = 9 := by unfold leadB; rw [List.length_append, List.length_append, sumN_length, putN_length]; rfl
/-- What heading does to a disk. -/
def headSh (d : DK) (half at' : Nat) (b : List UInt8) : List (Option (Int × List UInt8)) :=
  [some (((half * (d.n / 2) + at' / 64 : Nat) : Int), patch (readB d ((half * (d.n / 2) + at' / 64 : Nat) : Int)) (at' % 64) b), none]
/-- What Append does: the answer, the disk, the journal. -/
inductive AppR (d : DK) (j : JK) (b : List UInt8) : Int → DK → JK → Prop
  | full : roomN d.n j.endp < b.length → AppR d j b 4 d j
  | f1 {d1 : DK} {x : Int} : (b.length : Int) ≤ roomN d.n j.endp → Acts d (headSh d j.half (placeN j.endp) zero9) d1 x → x ≠ 0 → AppR d j b x d1 (failJ j x)
  | f2 {d1 d2 : DK} {x : Int} : (b.length : Int) ≤ roomN d.n j.endp → Acts d (headSh d j.half (placeN j.endp) zero9) d1 0 → Acts d1 (writesSh d1 j.half (placeN j.endp) (zero9 ++ b)) d2 x → x ≠ 0 → AppR d j b x d2 (failJ j x)
  | f3 {d1 d2 d3 : DK} {x : Int} : (b.length : Int) ≤ roomN d.n j.endp → Acts d (headSh d j.half (placeN j.endp) zero9) d1 0 → Acts d1 (writesSh d1 j.half (placeN j.endp) (zero9 ++ b)) d2 0 → Acts d2 (headSh d2 j.half (placeN j.endp) (leadB j.number (j.recs.length + 1) b)) d3 x → x ≠ 0 → AppR d j b x d3 (failJ j x)
  | ok {d1 d2 d3 : DK} {s : Wr} : (b.length : Int) ≤ roomN d.n j.endp → Acts d (headSh d j.half (placeN j.endp) zero9) d1 0 → Acts d1 (writesSh d1 j.half (placeN j.endp) (zero9 ++ b)) d2 0 → Acts d2 (headSh d2 j.half (placeN j.endp) (leadB j.number (j.recs.length + 1) b)) d3 0 → s.b = b →
      AppR d j b 0 d3 { j with recs := j.recs ++ [s], endp := placeN j.endp + 9 + b.length }
def AppQ (id idj gd mb gj : Nat) (d : DK) (j : JK) (b : List UInt8) (w : World) (col : Nat → Nat) (e : Ending) (w' : World) : Prop :=
  ∃ x d' j' col', e = .returned (.int .i64 x) ∧ Path (Two id idj) w col w' col' ∧ DiskAt w' col' id gd mb d' ∧ JAt w' col' idj gj gd j' ∧ AppR d j b x d' j'

set_option maxRecDepth 100000 in
set_option maxHeartbeats 16000000 in
theorem append_any (id idj gd mb gj : Nat) (d : DK) (j : JK) (a : Nat) (A : Option Addr) (c : Nat) (b : List UInt8) (w : World) (col : Nat → Nat) (hd : DiskAt w col id gd mb d) (hj : JAt w col idj gj gd j) (h0 : id ≠ 0) (hidj : idj ≠ 0) (hne : id ≠ idj) {cl : Nat} (hcl : cl ≠ id ∧ cl ≠ idj) (hr : RC w col cl A b) (hsv : SV A b.length c) (hf : d.fits a) (ha : a ≤ 400000) (hm : d.m + d.cache.length ≤ a)
    (hn : 8 ≤ d.n) (hh : j.half ≤ 1) (hnum : j.number ≤ 1000000000) (he : j.endp ≤ d.n / 2 * 64) (hrn : j.recs.length ≤ 1000000) (hdead : j.dead = false) (hb : b.length ≤ 60000) :
    Calls Try.prog 17 #[.pointer (some ⟨gj, 0, none⟩), .slice A b.length c] w (AppQ id idj gd mb gj d j b w col) := by
  obtain ⟨v, hv⟩ := hd
  obtain ⟨vr, hjv⟩ := hj
  have hdom := hv.dom.2
  have HJJ : Hid (∀ i, Two id idj i → i ≠ 0) := Lib.hid (fun i hi => by rcases hi with rfl | rfl <;> assumption)
  have HJC : Hid (∀ i, Two id idj i → i ≠ cl) := Lib.hid (fun i hi => hi.elim (fun e e2 => hcl.1 (e2.symm.trans e)) (fun e e2 => hcl.2 (e2.symm.trans e)))
  have HOC : Hid (∀ i, Only id i → i ≠ cl) := Lib.hid (fun i hi => by rw [show i = id from hi]; exact fun e => hcl.1 e.symm)
  have HON : Hid (∀ i, Only id i → i ≠ 0 ∧ i ≠ idj) := Lib.hid (fun i hi => by rw [show i = id from hi]; exact ⟨h0, hne⟩)
  have HTO : Hid (∀ i, Only id i → Two id idj i) := Lib.hid (fun i hi => .inl hi)
  obtain ⟨bl, hbl⟩ : ∃ l, l = b.length := ⟨_, rfl⟩
  obtain ⟨S, hS⟩ : ∃ S, S = d.n / 2 * 64 := ⟨_, rfl⟩
  obtain ⟨P, hP⟩ : ∃ P, P = placeN j.endp := ⟨_, rfl⟩
  have hPb := placeN_le j.endp
  rw [← hP] at hPb
  obtain ⟨hP1, hP2, hP3⟩ := hPb
  have hSb : S ≤ 2097152 := by omega
  rw [← hS] at he
  obtain ⟨RM, hRM⟩ : ∃ r, r = roomN d.n j.endp := ⟨_, rfl⟩
  have hRM2 : RM = max (min ((S : Int) - (P : Int) - 9) 60000) (-1) := by rw [hRM, hS, hP]; rfl
  have HRM2 := Lib.hid hRM2
  have HRM := Lib.hid hRM
  have HBL := Lib.hid hbl
  have HS := Lib.hid hS
  have HPP := Lib.hid hP
  have HV := Lib.hid hv
  have HJ := Lib.hid hjv
  have HR := Lib.hid hr
  have HSV := Lib.hid hsv
  have HFM := Lib.hid (And.intro hf hm)
  have HDEAD := Lib.hid (hdead ▸ dead_any gj gd vr j w hjv.obj)
  have HROOM := Lib.hid (room_any gj gd mb vr v j d w hjv.obj hv.obj hdom (by omega))
  rw [← hRM] at HROOM
  rw [← hbl] at hb ⊢
  obtain ⟨half, hhf⟩ : ∃ h, h = j.half := ⟨_, rfl⟩
  obtain ⟨num, hnm⟩ : ∃ h, h = j.number := ⟨_, rfl⟩
  have HHF := Lib.hid hhf
  have HNM := Lib.hid hnm
  rw [← hhf] at hh
  rw [← hnm] at hnum
  have HPL : Hid (∀ X, Calls Try.prog 53 #[.int .i64 (j.endp : Int)] X fun e w' => e = .returned (.int .i64 (P : Int)) ∧ X = w') := Lib.hid (fun X => by rw [hP]; exact place_any j.endp X (by omega))
  clear hv hjv hr hsv hf hm hdead hbl hS hP hRM hRM2 hhf hnm
  go_enter Try.func17, Try.ntmps17
  go_wp2_with fail
  refine HDEAD.out.mono ?_
  rintro e w' ⟨rfl, rfl⟩
  go_wp2_with fail
  refine HROOM.out.mono ?_
  rintro e w1 ⟨rfl, hb1⟩
  have D1 := Lib.hid (HV.out.grow hb1 (fun _ => 0))
  have J1 := Lib.hid (HJ.out.grow hb1 (fun _ => 0))
  have P1 : Hid (Path (Two id idj) w col w1 (paint w col (fun _ => 0))) := Lib.hid (.grow .refl hb1)
  have R1 := Lib.hid (RC.path HR.out P1.out HJC.out)
  generalize paint w col (fun _ => 0) = col1 at *
  clear hb1
  by_cases hfull : RM < (bl : Int)
  · have HA : Hid (AppR d j b 4 d j) := Lib.hid (.full (by rw [← HRM.out, ← HBL.out]; exact hfull))
    go_wp2
    go_ret
    exact ⟨4, d, j, col1, rfl, P1.out, ⟨_, D1.out⟩, ⟨_, J1.out⟩, HA.out⟩
  · have hfits : P + 9 + bl ≤ S := by have := HRM2.out; omega
    have HROK : Hid ((b.length : Int) ≤ roomN d.n j.endp) := Lib.hid (by rw [← HRM.out, ← HBL.out]; omega)
    have hq1 : P / 64 < d.n / 2 := by have := HS.out; omega
    have hfull2 : ¬ RM < (bl : Int) := hfull
    have c5 : w1.cell? ⟨gj, 5, none⟩ = some (.int .i64 (j.endp : Int)) := by rw [cell_of_row _ _ 5 _ _ _ J1.out.obj]; rfl
    clear hfull
    go_wp2_with fail
    refine (HPL.out _).mono ?_
    rintro e w' ⟨rfl, rfl⟩
    clear c5
    go_upto_region 8 with fail
    go_cut [6] (fun s6 wx => ∃ x1 d1 col2, s6 = .int .i64 x1 ∧ Hid (Path (Two id idj) w col wx col2) ∧ Hid (DiskAt wx col2 id gd mb d1) ∧ Hid (JAt wx col2 idj gj gd j) ∧ Hid (RC wx col2 cl A b) ∧ Hid (Acts d (headSh d half P zero9) d1 x1))
    case first =>
      have HBV := Lib.hid (bel_drew (Below.refl w1.heap.size w1))
      have JV0 := Lib.hid (J1.out.grow HBV.out (fun _ => 0))
      have DV0 := Lib.hid (D1.out.grow HBV.out (fun _ => 0))
      have PV0 := Lib.hid (P1.out.grow HBV.out)
      have RV0 := Lib.hid (RC.path R1.out (Path.grow (J := Two id idj) .refl HBV.out) HJC.out)
      generalize paint w1 col1 (fun _ => 0) = colv at *
      have s1 : w1.drew.cell? ⟨gj, 1, none⟩ = some (.int .i64 (half : Int)) := by rw [cell_of_row _ _ 1 _ _ _ JV0.out.obj, HHF.out]; rfl
      refine region_const (G := G17a) (S := fun X => X.cell? ⟨gj, 1, none⟩ = some (.int .i64 (half : Int))) (n := 9) (by kernel_rfl) (by kernel_rfl) rfl s1 (fun HG hS0 => ?_)
      have Gns := Gns17a
      clear s1
      generalize w1.drew = V at *
      simp only [Array.replicate_succ, Array.replicate_zero, List.push_toArray, List.nil_append, List.cons_append]
      refine wpAnyH_take (i := 0) (v := ?_) (o_at HG 0 rfl) Gns (by kernel_rfl) (by kernel_rfl) (fun _ _ _ h => h) (Or.inl ⟨(by kernel_rfl), ?_⟩) (by first | trivial | assumption) ?_
      rotate_left
      · (intro w hSw; (try dsimp only at hSw); go_simp; try with_reducible rfl)
      try simp only [Act.put, List.getElem_toArray, List.getElem_cons_zero, List.getElem_cons_succ, List.setIfInBounds_toArray, List.set_cons_zero, List.set_cons_succ]
      refine wpAnyH_take (i := 1) (v := ?_) (o_at HG 1 rfl) Gns (by kernel_rfl) (by kernel_rfl) (fun _ _ _ h => h) (Or.inl ⟨(by kernel_rfl), ?_⟩) (by first | trivial | assumption) ?_
      rotate_left
      · (intro w hSw; (try dsimp only at hSw); go_simp; try with_reducible rfl)
      try simp only [Act.put, List.getElem_toArray, List.getElem_cons_zero, List.getElem_cons_succ, List.setIfInBounds_toArray, List.set_cons_zero, List.set_cons_succ]
      refine wpAnyH_take (i := 2) (v := ?_) (o_at HG 2 rfl) Gns (by kernel_rfl) (by kernel_rfl) (fun _ _ _ h => h) (Or.inl ⟨(by kernel_rfl), ?_⟩) (by first | trivial | assumption) ?_
      rotate_left
      · (intro w hSw; (try dsimp only at hSw); go_simp; try with_reducible rfl)
      try simp only [Act.put, List.getElem_toArray, List.getElem_cons_zero, List.getElem_cons_succ, List.setIfInBounds_toArray, List.set_cons_zero, List.set_cons_succ]
      refine wpAnyH_take (i := 3) (v := ?_) (o_at HG 3 rfl) Gns (by kernel_rfl) (by kernel_rfl) (fun _ _ _ h => h) (Or.inl ⟨(by kernel_rfl), ?_⟩) (by first | trivial | assumption) ?_
      rotate_left
      · (intro w hSw; (try dsimp only at hSw); go_simp; try with_reducible rfl)
      try simp only [Act.put, List.getElem_toArray, List.getElem_cons_zero, List.getElem_cons_succ, List.setIfInBounds_toArray, List.set_cons_zero, List.set_cons_succ]
      refine wpAnyH_take (i := 4) (v := ?_) (o_at HG 4 rfl) Gns (by kernel_rfl) (by kernel_rfl) (fun _ _ _ h => h) (Or.inl ⟨(by kernel_rfl), ?_⟩) (by first | trivial | assumption) ?_
      rotate_left
      · (intro w hSw; (try dsimp only at hSw); go_simp; try with_reducible rfl)
      try simp only [Act.put, List.getElem_toArray, List.getElem_cons_zero, List.getElem_cons_succ, List.setIfInBounds_toArray, List.set_cons_zero, List.set_cons_succ]
      refine wpAnyH_take (i := 5) (v := ?_) (o_at HG 5 rfl) Gns (by kernel_rfl) (by kernel_rfl) (fun _ _ _ h => h) (Or.inl ⟨(by kernel_rfl), ?_⟩) (by first | trivial | assumption) ?_
      rotate_left
      · (intro w hSw; (try dsimp only at hSw); go_simp; try with_reducible rfl)
      try simp only [Act.put, List.getElem_toArray, List.getElem_cons_zero, List.getElem_cons_succ, List.setIfInBounds_toArray, List.set_cons_zero, List.set_cons_succ]
      refine wpAnyH_ready (rs := [6]) (by kernel_rfl) (by simp) ?_
      refine AllReadyH.cons (o_at HG 6 rfl) ?_ (AllReadyH.nil)
      · intro K' hK
        obtain ⟨X1, hrun, ob1, hb1⟩ := make_run V 9 9 rfl (by omega)
        rw [if_pos (by kernel_rfl)]
        go_simp
        have JV1 := Lib.hid (JV0.out.grow hb1 (fun _ => 0))
        have DV1 := Lib.hid (DV0.out.grow hb1 (fun _ => 0))
        have PV1 := Lib.hid (PV0.out.grow hb1)
        have RV1 := Lib.hid (RC.path RV0.out (Path.grow (J := Two id idj) .refl hb1) HJC.out)
        obtain ⟨AZ, cZ, eZ, -, rbZ⟩ := ob1.reads
        rw [List.length_replicate] at eZ
        cases eZ
        have RZ := Lib.hid (RC.new (col := colv) 0 rbZ (fun ad e => by cases e; exact Nat.le_refl _))
        have s1 : X1.cell? ⟨gj, 1, none⟩ = some (.int .i64 (half : Int)) := (hb1.cell (World.block_lt_of_cell? _ _ hS0)).trans hS0
        refine hK.out _ _ s1 (fun _ => ?_)
        clear s1 hrun ob1 rbZ hb1
        try simp only [Act.put, List.getElem_toArray, List.getElem_cons_zero, List.getElem_cons_succ, List.setIfInBounds_toArray, List.set_cons_zero, List.set_cons_succ]
        refine wpAnyH_ready (rs := [7]) (by kernel_rfl) (by simp) ?_
        refine AllReadyH.cons (o_at HG 7 rfl) ?_ (AllReadyH.nil)
        · intro K' hK
          rw [if_pos (by kernel_rfl)]
          go_simp
          have hh1 := heading_any id idj gd mb gj d j half P a 0 (some ⟨V.heap.size, 0, none⟩) 9 zero9 X1 _ ⟨_, DV1.out⟩ ⟨_, JV1.out⟩ h0 hne RZ.out h0.symm HFM.out.1 (by omega) HFM.out.2 hh hq1 (by rw [show zero9.length = 9 from List.length_replicate ..]; omega)
          rw [show zero9.length = 9 from List.length_replicate ..] at hh1
          (with_reducible refine hh1.mono ?_)
          clear hh1
          rintro e X2 ⟨x1, d1, col2, rfl, p2, dd2, aa2⟩
          have P3 := Lib.hid (PV1.out.trans (p2.mono HTO.out))
          have D3 := Lib.hid dd2
          have J3' := JV1.out
          have J3 := Lib.hid (JAt.path ⟨_, JV1.out⟩ p2 HON.out)
          have R3 := Lib.hid (RC.path RV1.out p2 HOC.out)
          have A3 : Hid (Acts d (headSh d half P zero9) d1 x1) := Lib.hid aa2
          obtain ⟨vr3, jv3⟩ := J3.out
          have s1 : X2.cell? ⟨gj, 1, none⟩ = some (.int .i64 (half : Int)) := by rw [cell_of_row _ _ 1 _ _ _ jv3.obj, HHF.out]; rfl
          refine hK.out _ _ s1 (fun _ => ?_)
          clear s1 jv3 p2 dd2 aa2 J3'
          try simp only [Act.put, List.getElem_toArray, List.getElem_cons_zero, List.getElem_cons_succ, List.setIfInBounds_toArray, List.set_cons_zero, List.set_cons_succ]
          refine wpAnyH_take (i := 8) (v := ?_) (o_at HG 8 rfl) Gns (by kernel_rfl) (by kernel_rfl) (fun _ _ _ h => h) (Or.inl ⟨(by kernel_rfl), ?_⟩) (by first | trivial | assumption) ?_
          rotate_left
          · (intro w hSw; (try dsimp only at hSw); go_simp; try with_reducible rfl)
          try simp only [Act.put, List.getElem_toArray, List.getElem_cons_zero, List.getElem_cons_succ, List.setIfInBounds_toArray, List.set_cons_zero, List.set_cons_succ]
          refine wpAnyH_done (by kernel_rfl) ?_ _
          go_wp2
          go_meet
          exact ⟨x1, d1, col2, rfl, P3, D3, J3, R3, A3⟩
    case rest =>
      obtain ⟨x1, d1, col2, rfl, P3, D3, J3, R3, A3⟩ := hcut
      have HMO1 := Lib.hid (A3.out.more HFM.out.1 HFM.out.2)
      clear D1 J1 P1 R1
      by_cases hx1 : x1 = 0
      · subst hx1
        go_upto_region 11 with fail
        go_cut [7] (fun s7 wx => ∃ x2 d2 col3, s7 = .int .i64 x2 ∧ Hid (Path (Two id idj) w col wx col3) ∧ Hid (DiskAt wx col3 id gd mb d2) ∧ Hid (JAt wx col3 idj gj gd j) ∧ Hid (RC wx col3 cl A b) ∧ Hid (Acts d1 (writesSh d1 half P (zero9 ++ b)) d2 x2))
        case first =>
          obtain ⟨vr1, jv1⟩ := J3.out
          have HBV := Lib.hid (bel_drew (Below.refl wc.heap.size wc))
          have JV0 : Hid (JV wc.drew (paint wc col2 (fun _ => 0)) idj gj gd vr1 j) := Lib.hid (jv1.grow HBV.out (fun _ => 0))
          have DV0 := Lib.hid (D3.out.grow HBV.out (fun _ => 0))
          have PV0 := Lib.hid (P3.out.grow HBV.out)
          have RV0 := Lib.hid (RC.path R3.out (Path.grow (J := Two id idj) .refl HBV.out) HJC.out)
          generalize paint wc col2 (fun _ => 0) = colv at *
          have s1 : wc.drew.cell? ⟨gj, 1, none⟩ = some (.int .i64 (half : Int)) := by rw [cell_of_row _ _ 1 _ _ _ JV0.out.obj, HHF.out]; rfl
          clear jv1
          refine region_const (G := G17b) (S := fun X => X.cell? ⟨gj, 1, none⟩ = some (.int .i64 (half : Int))) (n := 11) (by kernel_rfl) (by kernel_rfl) rfl s1 (fun HG hS0 => ?_)
          have Gns := Gns17b
          clear s1
          generalize wc.drew = V at *
          simp only [Array.replicate_succ, Array.replicate_zero, List.push_toArray, List.nil_append, List.cons_append]
          refine wpAnyH_take (i := 0) (v := ?_) (o_at HG 0 rfl) Gns (by kernel_rfl) (by kernel_rfl) (fun _ _ _ h => h) (Or.inl ⟨(by kernel_rfl), ?_⟩) (by first | trivial | assumption) ?_
          rotate_left
          · (intro w hSw; (try dsimp only at hSw); go_simp; try with_reducible rfl)
          try simp only [Act.put, List.getElem_toArray, List.getElem_cons_zero, List.getElem_cons_succ, List.setIfInBounds_toArray, List.set_cons_zero, List.set_cons_succ]
          refine wpAnyH_take (i := 1) (v := ?_) (o_at HG 1 rfl) Gns (by kernel_rfl) (by kernel_rfl) (fun _ _ _ h => h) (Or.inl ⟨(by kernel_rfl), ?_⟩) (by first | trivial | assumption) ?_
          rotate_left
          · (intro w hSw; (try dsimp only at hSw); go_simp; try with_reducible rfl)
          try simp only [Act.put, List.getElem_toArray, List.getElem_cons_zero, List.getElem_cons_succ, List.setIfInBounds_toArray, List.set_cons_zero, List.set_cons_succ]
          refine wpAnyH_take (i := 2) (v := ?_) (o_at HG 2 rfl) Gns (by kernel_rfl) (by kernel_rfl) (fun _ _ _ h => h) (Or.inl ⟨(by kernel_rfl), ?_⟩) (by first | trivial | assumption) ?_
          rotate_left
          · (intro w hSw; (try dsimp only at hSw); go_simp; try with_reducible rfl)
          try simp only [Act.put, List.getElem_toArray, List.getElem_cons_zero, List.getElem_cons_succ, List.setIfInBounds_toArray, List.set_cons_zero, List.set_cons_succ]
          refine wpAnyH_take (i := 3) (v := ?_) (o_at HG 3 rfl) Gns (by kernel_rfl) (by kernel_rfl) (fun _ _ _ h => h) (Or.inl ⟨(by kernel_rfl), ?_⟩) (by first | trivial | assumption) ?_
          rotate_left
          · (intro w hSw; (try dsimp only at hSw); go_simp; try with_reducible rfl)
          try simp only [Act.put, List.getElem_toArray, List.getElem_cons_zero, List.getElem_cons_succ, List.setIfInBounds_toArray, List.set_cons_zero, List.set_cons_succ]
          refine wpAnyH_take (i := 4) (v := ?_) (o_at HG 4 rfl) Gns (by kernel_rfl) (by kernel_rfl) (fun _ _ _ h => h) (Or.inl ⟨(by kernel_rfl), ?_⟩) (by first | trivial | assumption) ?_
          rotate_left
          · (intro w hSw; (try dsimp only at hSw); go_simp; try with_reducible rfl)
          try simp only [Act.put, List.getElem_toArray, List.getElem_cons_zero, List.getElem_cons_succ, List.setIfInBounds_toArray, List.set_cons_zero, List.set_cons_succ]
          refine wpAnyH_take (i := 5) (v := ?_) (o_at HG 5 rfl) Gns (by kernel_rfl) (by kernel_rfl) (fun _ _ _ h => h) (Or.inl ⟨(by kernel_rfl), ?_⟩) (by first | trivial | assumption) ?_
          rotate_left
          · (intro w hSw; (try dsimp only at hSw); go_simp; try with_reducible rfl)
          try simp only [Act.put, List.getElem_toArray, List.getElem_cons_zero, List.getElem_cons_succ, List.setIfInBounds_toArray, List.set_cons_zero, List.set_cons_succ]
          refine wpAnyH_take (i := 7) (v := ?_) (o_at HG 7 rfl) Gns (by kernel_rfl) (by kernel_rfl) (fun _ _ _ h => h) (Or.inl ⟨(by kernel_rfl), ?_⟩) (by first | trivial | assumption) ?_
          rotate_left
          · (intro w hSw; (try dsimp only at hSw); go_simp; try with_reducible rfl)
          try simp only [Act.put, List.getElem_toArray, List.getElem_cons_zero, List.getElem_cons_succ, List.setIfInBounds_toArray, List.set_cons_zero, List.set_cons_succ]
          refine wpAnyH_ready (rs := [6]) (by kernel_rfl) (by simp) ?_
          refine AllReadyH.cons (o_at HG 6 rfl) ?_ (AllReadyH.nil)
          · intro K' hK
            obtain ⟨X1, hrun, ob1, hb1⟩ := make_run V 9 9 rfl (by omega)
            rw [if_pos (by kernel_rfl)]
            go_simp
            have JV1 := Lib.hid (JV0.out.grow hb1 (fun _ => 0))
            have DV1 := Lib.hid (DV0.out.grow hb1 (fun _ => 0))
            have PV1 := Lib.hid (PV0.out.grow hb1)
            have RV1 := Lib.hid (RC.path RV0.out (Path.grow (J := Two id idj) .refl hb1) HJC.out)
            have OZ := Lib.hid ob1
            have HBX := Lib.hid hb1
            have s1 : X1.cell? ⟨gj, 1, none⟩ = some (.int .i64 (half : Int)) := (hb1.cell (World.block_lt_of_cell? _ _ hS0)).trans hS0
            refine hK.out _ _ s1 (fun _ => ?_)
            clear s1 hrun ob1 hb1
            try simp only [Act.put, List.getElem_toArray, List.getElem_cons_zero, List.getElem_cons_succ, List.setIfInBounds_toArray, List.set_cons_zero, List.set_cons_succ]
            refine wpAnyH_ready (rs := [8]) (by kernel_rfl) (by simp) ?_
            refine AllReadyH.cons (o_at HG 8 rfl) ?_ (AllReadyH.nil)
            · intro K' hK
              refine step_app_bytes (by kernel_rfl) _ _ 22 rfl V.heap.size 5 Try.underlying22 info5 (.slice (some ⟨V.heap.size, 0, none⟩) 9 9) (List.replicate 9 0) rfl OZ.out A c b (by rw [← HBL.out]; rfl) HSV.out.2 RV1.out.read (by rw [List.length_replicate, ← HBL.out]; omega) HBX.out.size ?_
              intro v2 X2 ho hg hv
              have hb2 := bel_grown HBX.out hg (fun k e => by cases e; exact Nat.le_refl _)
              obtain ⟨A2, c2, e2, sv2, rb2⟩ := ho.reads
              have hl2 : (List.replicate 9 (0 : UInt8) ++ b).length = 9 + bl := by rw [List.length_append, List.length_replicate, HBL.out]
              rw [hl2] at e2 sv2
              subst e2
              have JV2 := Lib.hid (JV0.out.grow hb2 (fun _ => 0))
              have DV2 := Lib.hid (DV0.out.grow hb2 (fun _ => 0))
              have PV2 := Lib.hid (PV0.out.grow hb2)
              have RV2 := Lib.hid (RC.path RV0.out (Path.grow (J := Two id idj) .refl hb2) HJC.out)
              have RB2 : Hid (RB X2 A2 (zero9 ++ b)) := Lib.hid rb2
              have SV2 := Lib.hid sv2
              have HL2 : Hid ((zero9 ++ b).length = 9 + bl) := Lib.hid hl2
              have s1 : X2.cell? ⟨gj, 1, none⟩ = some (.int .i64 (half : Int)) := (hb2.cell (World.block_lt_of_cell? _ _ hS0)).trans hS0
              refine hK.out _ _ s1 (fun _ => ?_)
              clear s1 ho hg hv hb2 rb2 sv2 hl2
              try simp only [Act.put, List.getElem_toArray, List.getElem_cons_zero, List.getElem_cons_succ, List.setIfInBounds_toArray, List.set_cons_zero, List.set_cons_succ]
              refine wpAnyH_ready (rs := [9]) (by kernel_rfl) (by simp) ?_
              refine AllReadyH.cons (o_at HG 9 rfl) ?_ (AllReadyH.nil)
              · intro K' hK
                rw [if_pos (by kernel_rfl)]
                go_simp
                have hh1 := writes_any id idj gd mb gj d1 j half P (a + 2) A2 c2 (zero9 ++ b) X2 _ ⟨_, DV2.out.choose_spec⟩ ⟨_, JV2.out⟩ h0 hne RB2.out (by rw [HL2.out]; exact SV2.out) HMO1.out.1 (by omega) HMO1.out.2.1 hh (by rw [HMO1.out.2.2]; exact hq1) (by rw [HMO1.out.2.2, HL2.out, ← HS.out]; omega)
                rw [HL2.out] at hh1
                (with_reducible refine hh1.mono ?_)
                clear hh1
                rintro e X3 ⟨x2, d2, col3, rfl, p2, dd2, aa2⟩
                have P4 := Lib.hid (PV2.out.trans (p2.mono HTO.out))
                have D4 := Lib.hid dd2
                have J4 := Lib.hid (JAt.path ⟨_, JV2.out⟩ p2 HON.out)
                have R4 := Lib.hid (RC.path RV2.out p2 HOC.out)
                have A4 := Lib.hid aa2
                obtain ⟨vr3, jv3⟩ := J4.out
                have s1 : X3.cell? ⟨gj, 1, none⟩ = some (.int .i64 (half : Int)) := by rw [cell_of_row _ _ 1 _ _ _ jv3.obj, HHF.out]; rfl
                refine hK.out _ _ s1 (fun _ => ?_)
                clear s1 jv3 p2 dd2 aa2
                try simp only [Act.put, List.getElem_toArray, List.getElem_cons_zero, List.getElem_cons_succ, List.setIfInBounds_toArray, List.set_cons_zero, List.set_cons_succ]
                refine wpAnyH_take (i := 10) (v := ?_) (o_at HG 10 rfl) Gns (by kernel_rfl) (by kernel_rfl) (fun _ _ _ h => h) (Or.inl ⟨(by kernel_rfl), ?_⟩) (by first | trivial | assumption) ?_
                rotate_left
                · (intro w hSw; (try dsimp only at hSw); go_simp; try with_reducible rfl)
                try simp only [Act.put, List.getElem_toArray, List.getElem_cons_zero, List.getElem_cons_succ, List.setIfInBounds_toArray, List.set_cons_zero, List.set_cons_succ]
                refine wpAnyH_done (by kernel_rfl) ?_ _
                go_wp2
                go_meet
                exact ⟨x2, d2, col3, rfl, P4, D4, J4, R4, A4⟩
        case rest =>
          obtain ⟨x2, d2, col3, rfl, P4, D4, J4, R4, A4⟩ := hcut
          have HMO2 := Lib.hid (A4.out.more HMO1.out.1 HMO1.out.2.1)
          have hwl : (writesSh d1 half P (zero9 ++ b)).length ≤ 40000 := by
            unfold writesSh
            have h1 := blankSh_len d1 half (P / 64 + ((fullB d1 half P (zero9 ++ b)).length + 63) / 64)
            have h2 : (fullB d1 half P (zero9 ++ b)).length ≤ 64 + 9 + bl := by
              unfold fullB
              rw [List.length_append, List.length_append, List.length_take, HBL.out, show zero9.length = 9 from List.length_replicate ..]
              have := Nat.min_le_left (P % 64) (readB d1 ((half * (d1.n / 2) + P / 64 : Nat) : Int)).length
              omega
            rw [List.length_append, List.length_append, chunksSh_len]
            simp only [List.length_cons, List.length_nil]
            omega
          have HMO3 : Hid (d2.fits (a + 40002) ∧ d2.m + d2.cache.length ≤ a + 40002 ∧ d2.n = d.n) := Lib.hid ⟨DiskAt.fits' HMO2.out.1 (by simp [headSh]; omega), by have := HMO2.out.2.1; simp [headSh] at this; omega, HMO2.out.2.2.trans HMO1.out.2.2⟩
          clear HMO2 hwl P3 D3 J3 R3
          by_cases hx2 : x2 = 0
          · subst hx2
            go_upto_region 14 with fail
            go_cut [8] (fun s8 wx => ∃ x3 d3 col4, s8 = .int .i64 x3 ∧ Hid (Path (Two id idj) w col wx col4) ∧ Hid (DiskAt wx col4 id gd mb d3) ∧ Hid (JAt wx col4 idj gj gd j) ∧ Hid (RC wx col4 cl A b) ∧ Hid (Acts d2 (headSh d2 half P (leadB num (j.recs.length + 1) b)) d3 x3))
            case first =>
              obtain ⟨vr1, jv1⟩ := J4.out
              obtain ⟨AR, cR, rfl, -, -, -⟩ := own_FL jv1.own
              obtain ⟨rl, hrl⟩ : ∃ n, n = j.recs.length := ⟨_, rfl⟩
              rw [← hrl] at jv1 hrn
              have HRL0 := Lib.hid hrl
              have HBX0 := Lib.hid (bel_drew (Below.refl wc.heap.size wc))
              have HJ0 := Lib.hid jv1
              have s1 : wc.cell? ⟨gj, 1, none⟩ = some (.int .i64 (half : Int)) := by rw [cell_of_row _ _ 1 _ _ _ jv1.obj, HHF.out]; rfl
              have s2 : wc.cell? ⟨gj, 2, none⟩ = some (.int .i64 (num : Int)) := by rw [cell_of_row _ _ 2 _ _ _ jv1.obj, HNM.out]; rfl
              have s4 : wc.cell? ⟨gj, 4, none⟩ = some (.slice AR rl cR) := by rw [cell_of_row _ _ 4 _ _ _ jv1.obj]; rfl
              have HCJ : Hid (∀ X, Below wc.heap.size wc X → X.cell? ⟨gj, 1, none⟩ = some (.int .i64 (half : Int)) ∧ X.cell? ⟨gj, 2, none⟩ = some (.int .i64 (num : Int)) ∧ X.cell? ⟨gj, 4, none⟩ = some (.slice AR rl cR)) := Lib.hid (fun X hX => ⟨(hX.cell (World.block_lt_of_cell? _ _ s1)).trans s1, (hX.cell (World.block_lt_of_cell? _ _ s2)).trans s2, (hX.cell (World.block_lt_of_cell? _ _ s4)).trans s4⟩)
              have HSUM : Hid (∀ X, Below wc.heap.size wc X → Calls Try.prog 48 #[.pointer (some ⟨gj, 0, none⟩), .int .i64 (num : Int), .int .i64 ((rl : Int) + 1), .slice A bl c] X (NewB X 4 (sumN num (rl + 1) b))) := Lib.hid (fun X hX => by
                have h1 := sumj_any (.pointer (some ⟨gj, 0, none⟩)) num (rl + 1) A c b X (R4.out.read.below hX) HSV.out (by omega) (by omega)
                rw [← HBL.out] at h1
                exact h1)
              have HPUT : Hid (∀ X, Calls Try.prog 49 #[.int .i64 ((bl : Int) + 1), .int .i64 4] X (NewB X 4 (putN (bl + 1) 4))) := Lib.hid (fun X => put_any (bl + 1) 4 X (by omega) (by omega))
              have HCAT : Hid (∀ X k, RL X (some ⟨k, 0, none⟩) [sumN num (rl + 1) b, putN (bl + 1) 4] → Calls Try.prog 47 #[.slice (some ⟨k, 0, none⟩) 2 2] X fun e w' => ∃ v, e = .returned v ∧ OB w' X.heap.size 5 v [sumN num (rl + 1) b, putN (bl + 1) 4].flatten ∧ Below X.heap.size X w') := Lib.hid (fun X k h => concat_any (some ⟨k, 0, none⟩) 2 [sumN num (rl + 1) b, putN (bl + 1) 4] X h (by simp) (by simp [sumN_length, putN_length]))
              have HHD : Hid (∀ X AL cL, Below wc.heap.size wc X → RB X AL (leadB num (rl + 1) b) → (∀ ad, AL = some ad → wc.heap.size ≤ ad.block) → Calls Try.prog 50 #[.pointer (some ⟨gj, 0, none⟩), .int .i64 (half : Int), .int .i64 (P : Int), .slice AL 9 cL] X (ActQ id gd mb d2 (headSh d2 half P (leadB num (rl + 1) b)) X (paint wc col3 (fun _ => 0)))) := Lib.hid (fun X AL cL hX hrb hfr => by
                have h1 := heading_any id idj gd mb gj d2 j half P (a + 40002) 0 AL cL (leadB num (rl + 1) b) X (paint wc col3 (fun _ => 0)) (D4.out.grow hX _) (J4.out.grow hX _) h0 hne (RC.new 0 hrb hfr) h0.symm HMO3.out.1 (by omega) HMO3.out.2.1 hh (by rw [HMO3.out.2.2]; exact hq1) (by rw [leadB_len]; omega)
                rw [leadB_len] at h1
                exact h1)
              have HGR : Hid (∀ X, Below wc.heap.size wc X → Path (Two id idj) w col X (paint wc col3 (fun _ => 0)) ∧ JAt X (paint wc col3 (fun _ => 0)) idj gj gd j ∧ RC X (paint wc col3 (fun _ => 0)) cl A b) := Lib.hid (fun X hX => ⟨P4.out.grow hX, J4.out.grow hX _, RC.path R4.out (Path.grow (J := Two id idj) .refl hX) HJC.out⟩)
              have wk : IntKind.i64.wrap ((rl : Int) + 1) = (rl : Int) + 1 := IntWalk.i64_in _ (by omega)
              have wb1 : IntKind.i64.wrap ((bl : Int) + 1) = (bl : Int) + 1 := IntWalk.i64_in _ (by omega)
              clear jv1 hrl s1 s2 s4
              obtain ⟨s1, s2, s4⟩ := HCJ.out wc.drew HBX0.out
              refine region_const (G := G17c) (S := fun X => X.cell? ⟨gj, 1, none⟩ = some (.int .i64 (half : Int)) ∧ X.cell? ⟨gj, 2, none⟩ = some (.int .i64 (num : Int)) ∧ X.cell? ⟨gj, 4, none⟩ = some (.slice AR rl cR)) (n := 29) (by kernel_rfl) (by kernel_rfl) rfl ⟨s1, s2, s4⟩ (fun HG hS0 => ?_)
              have Gns := Gns17c
              clear s1 s2 s4
              generalize wc.drew = X0 at *
              simp only [Array.replicate_succ, Array.replicate_zero, List.push_toArray, List.nil_append, List.cons_append]
              refine wpAnyH_take (i := 0) (v := ?_) (o_at HG 0 rfl) Gns (by kernel_rfl) (by kernel_rfl) (fun _ _ _ h => h) (Or.inl ⟨(by kernel_rfl), ?_⟩) (by first | trivial | assumption) ?_
              rotate_left
              · (intro w hSw; (try dsimp only at hSw); go_simp; try with_reducible rfl)
              try simp only [Act.put, List.getElem_toArray, List.getElem_cons_zero, List.getElem_cons_succ, List.setIfInBounds_toArray, List.set_cons_zero, List.set_cons_succ]
              refine wpAnyH_take (i := 1) (v := ?_) (o_at HG 1 rfl) Gns (by kernel_rfl) (by kernel_rfl) (fun _ _ _ h => h) (Or.inl ⟨(by kernel_rfl), ?_⟩) (by first | trivial | assumption) ?_
              rotate_left
              · (intro w hSw; (try dsimp only at hSw); go_simp; try with_reducible rfl)
              try simp only [Act.put, List.getElem_toArray, List.getElem_cons_zero, List.getElem_cons_succ, List.setIfInBounds_toArray, List.set_cons_zero, List.set_cons_succ]
              refine wpAnyH_take (i := 2) (v := ?_) (o_at HG 2 rfl) Gns (by kernel_rfl) (by kernel_rfl) (fun _ _ _ h => h) (Or.inl ⟨(by kernel_rfl), ?_⟩) (by first | trivial | assumption) ?_
              rotate_left
              · (intro w hSw; (try dsimp only at hSw); go_simp; try with_reducible rfl)
              try simp only [Act.put, List.getElem_toArray, List.getElem_cons_zero, List.getElem_cons_succ, List.setIfInBounds_toArray, List.set_cons_zero, List.set_cons_succ]
              refine wpAnyH_take (i := 3) (v := ?_) (o_at HG 3 rfl) Gns (by kernel_rfl) (by kernel_rfl) (fun _ _ _ h => h) (Or.inl ⟨(by kernel_rfl), ?_⟩) (by first | trivial | assumption) ?_
              rotate_left
              · (intro w hSw; (try dsimp only at hSw); go_simp; try with_reducible rfl)
              try simp only [Act.put, List.getElem_toArray, List.getElem_cons_zero, List.getElem_cons_succ, List.setIfInBounds_toArray, List.set_cons_zero, List.set_cons_succ]
              refine wpAnyH_take (i := 4) (v := ?_) (o_at HG 4 rfl) Gns (by kernel_rfl) (by kernel_rfl) (fun _ _ _ h => h) (Or.inl ⟨(by kernel_rfl), ?_⟩) (by first | trivial | assumption) ?_
              rotate_left
              · (intro w hSw; (try dsimp only at hSw); go_simp; try with_reducible rfl)
              try simp only [Act.put, List.getElem_toArray, List.getElem_cons_zero, List.getElem_cons_succ, List.setIfInBounds_toArray, List.set_cons_zero, List.set_cons_succ]
              refine wpAnyH_take (i := 5) (v := ?_) (o_at HG 5 rfl) Gns (by kernel_rfl) (by kernel_rfl) (fun _ _ _ h => h) (Or.inl ⟨(by kernel_rfl), ?_⟩) (by first | trivial | assumption) ?_
              rotate_left
              · (intro w hSw; (try dsimp only at hSw); go_simp; try with_reducible rfl)
              try simp only [Act.put, List.getElem_toArray, List.getElem_cons_zero, List.getElem_cons_succ, List.setIfInBounds_toArray, List.set_cons_zero, List.set_cons_succ]
              refine wpAnyH_take (i := 6) (v := ?_) (o_at HG 6 rfl) Gns (by kernel_rfl) (by kernel_rfl) (fun _ _ _ h => h) (Or.inl ⟨(by kernel_rfl), ?_⟩) (by first | trivial | assumption) ?_
              rotate_left
              · (intro w hSw; (try dsimp only at hSw); go_simp; try with_reducible rfl)
              try simp only [Act.put, List.getElem_toArray, List.getElem_cons_zero, List.getElem_cons_succ, List.setIfInBounds_toArray, List.set_cons_zero, List.set_cons_succ]
              refine wpAnyH_take (i := 7) (v := ?_) (o_at HG 7 rfl) Gns (by kernel_rfl) (by kernel_rfl) (fun _ _ _ h => h) (Or.inl ⟨(by kernel_rfl), ?_⟩) (by first | trivial | assumption) ?_
              rotate_left
              · (intro w hSw; (try dsimp only at hSw); go_simp; try with_reducible rfl)
              try simp only [Act.put, List.getElem_toArray, List.getElem_cons_zero, List.getElem_cons_succ, List.setIfInBounds_toArray, List.set_cons_zero, List.set_cons_succ]
              refine wpAnyH_take (i := 8) (v := ?_) (o_at HG 8 rfl) Gns (by kernel_rfl) (by kernel_rfl) (fun _ _ _ h => h) (Or.inl ⟨(by kernel_rfl), ?_⟩) (by first | trivial | assumption) ?_
              rotate_left
              · (intro w hSw; (try dsimp only at hSw); go_simp; try with_reducible rfl)
              try simp only [Act.put, List.getElem_toArray, List.getElem_cons_zero, List.getElem_cons_succ, List.setIfInBounds_toArray, List.set_cons_zero, List.set_cons_succ]
              refine wpAnyH_take (i := 9) (v := ?_) (o_at HG 9 rfl) Gns (by kernel_rfl) (by kernel_rfl) (fun _ _ _ h => h) (Or.inl ⟨(by kernel_rfl), ?_⟩) (by first | trivial | assumption) ?_
              rotate_left
              · (intro w hSw; (try dsimp only at hSw); go_simp; try with_reducible rfl)
              try simp only [Act.put, List.getElem_toArray, List.getElem_cons_zero, List.getElem_cons_succ, List.setIfInBounds_toArray, List.set_cons_zero, List.set_cons_succ]
              refine wpAnyH_take (i := 10) (v := ?_) (o_at HG 10 rfl) Gns (by kernel_rfl) (by kernel_rfl) (fun _ _ _ h => h) (Or.inl ⟨(by kernel_rfl), ?_⟩) (by first | trivial | assumption) ?_
              rotate_left
              · (intro w hSw; (try dsimp only at hSw); go_simp; try with_reducible rfl)
              try simp only [Act.put, List.getElem_toArray, List.getElem_cons_zero, List.getElem_cons_succ, List.setIfInBounds_toArray, List.set_cons_zero, List.set_cons_succ]
              refine wpAnyH_take (i := 11) (v := ?_) (o_at HG 11 rfl) Gns (by kernel_rfl) (by kernel_rfl) (fun _ _ _ h => h) (Or.inl ⟨(by kernel_rfl), ?_⟩) (by first | trivial | assumption) ?_
              rotate_left
              · (intro w hSw; (try dsimp only at hSw); go_simp; try with_reducible rfl)
              try simp only [Act.put, List.getElem_toArray, List.getElem_cons_zero, List.getElem_cons_succ, List.setIfInBounds_toArray, List.set_cons_zero, List.set_cons_succ]
              refine wpAnyH_take (i := 12) (v := ?_) (o_at HG 12 rfl) Gns (by kernel_rfl) (by kernel_rfl) (fun _ _ _ h => h) (Or.inl ⟨(by kernel_rfl), ?_⟩) (by first | trivial | assumption) ?_
              rotate_left
              · (intro w hSw; (try dsimp only at hSw); go_simp; try with_reducible rfl)
              try simp only [Act.put, List.getElem_toArray, List.getElem_cons_zero, List.getElem_cons_succ, List.setIfInBounds_toArray, List.set_cons_zero, List.set_cons_succ]
              refine wpAnyH_take (i := 13) (v := ?_) (o_at HG 13 rfl) Gns (by kernel_rfl) (by kernel_rfl) (fun _ _ _ h => h) (Or.inl ⟨(by kernel_rfl), ?_⟩) (by first | trivial | assumption) ?_
              rotate_left
              · (intro w hSw; (try dsimp only at hSw); go_simp; try with_reducible rfl)
              try simp only [Act.put, List.getElem_toArray, List.getElem_cons_zero, List.getElem_cons_succ, List.setIfInBounds_toArray, List.set_cons_zero, List.set_cons_succ]
              refine wpAnyH_take (i := 14) (v := ?_) (o_at HG 14 rfl) Gns (by kernel_rfl) (by kernel_rfl) (fun _ _ _ h => h) (Or.inl ⟨(by kernel_rfl), ?_⟩) (by first | trivial | assumption) ?_
              rotate_left
              · (intro w hSw; (try dsimp only at hSw); go_simp; try with_reducible rfl)
              try simp only [Act.put, List.getElem_toArray, List.getElem_cons_zero, List.getElem_cons_succ, List.setIfInBounds_toArray, List.set_cons_zero, List.set_cons_succ]
              refine wpAnyH_take (i := 15) (v := ?_) (o_at HG 15 rfl) Gns (by kernel_rfl) (by kernel_rfl) (fun _ _ _ h => h) (Or.inl ⟨(by kernel_rfl), ?_⟩) (by first | trivial | assumption) ?_
              rotate_left
              · (intro w hSw; (try dsimp only at hSw); go_simp; try with_reducible rfl)
              try simp only [Act.put, List.getElem_toArray, List.getElem_cons_zero, List.getElem_cons_succ, List.setIfInBounds_toArray, List.set_cons_zero, List.set_cons_succ]
              refine wpAnyH_take (i := 16) (v := ?_) (o_at HG 16 rfl) Gns (by kernel_rfl) (by kernel_rfl) (fun _ _ _ h => h) (Or.inl ⟨(by kernel_rfl), ?_⟩) (by first | trivial | assumption) ?_
              rotate_left
              · (intro w hSw; (try dsimp only at hSw); go_simp; try with_reducible rfl)
              try simp only [Act.put, List.getElem_toArray, List.getElem_cons_zero, List.getElem_cons_succ, List.setIfInBounds_toArray, List.set_cons_zero, List.set_cons_succ]
              refine wpAnyH_take (i := 17) (v := ?_) (o_at HG 17 rfl) Gns (by kernel_rfl) (by kernel_rfl) (fun _ _ _ h => h) (Or.inl ⟨(by kernel_rfl), ?_⟩) (by first | trivial | assumption) ?_
              rotate_left
              · (intro w hSw; (try dsimp only at hSw); go_simp; try with_reducible rfl)
              try simp only [Act.put, List.getElem_toArray, List.getElem_cons_zero, List.getElem_cons_succ, List.setIfInBounds_toArray, List.set_cons_zero, List.set_cons_succ]
              refine wpAnyH_take (i := 19) (v := ?_) (o_at HG 19 rfl) Gns (by kernel_rfl) (by kernel_rfl) (fun _ _ _ h => h) (Or.inl ⟨(by kernel_rfl), ?_⟩) (by first | trivial | assumption) ?_
              rotate_left
              · (intro w hSw; (try dsimp only at hSw); go_simp; try with_reducible rfl)
              try simp only [Act.put, List.getElem_toArray, List.getElem_cons_zero, List.getElem_cons_succ, List.setIfInBounds_toArray, List.set_cons_zero, List.set_cons_succ]
              refine wpAnyH_take (i := 20) (v := ?_) (o_at HG 20 rfl) Gns (by kernel_rfl) (by kernel_rfl) (fun _ _ _ h => h) (Or.inl ⟨(by kernel_rfl), ?_⟩) (by first | trivial | assumption) ?_
              rotate_left
              · (intro w hSw; (try dsimp only at hSw); go_simp; try with_reducible rfl)
              try simp only [Act.put, List.getElem_toArray, List.getElem_cons_zero, List.getElem_cons_succ, List.setIfInBounds_toArray, List.set_cons_zero, List.set_cons_succ]
              refine wpAnyH_take (i := 21) (v := ?_) (o_at HG 21 rfl) Gns (by kernel_rfl) (by kernel_rfl) (fun _ _ _ h => h) (Or.inl ⟨(by kernel_rfl), ?_⟩) (by first | trivial | assumption) ?_
              rotate_left
              · (intro w hSw; (try dsimp only at hSw); go_simp; try with_reducible rfl)
              try simp only [Act.put, List.getElem_toArray, List.getElem_cons_zero, List.getElem_cons_succ, List.setIfInBounds_toArray, List.set_cons_zero, List.set_cons_succ]
              refine wpAnyH_ready (rs := [18, 25]) (by kernel_rfl) (by simp) ?_
              refine AllReadyH.cons (o_at HG 18 rfl) ?_ (AllReadyH.cons (o_at HG 25 rfl) ?_ (AllReadyH.nil))
              · intro K' hK
                rw [if_pos (by kernel_rfl)]
                go_simp
                (with_reducible refine (HSUM.out X0 HBX0.out).mono ?_)
                rintro e X1 ⟨A7, c7, rfl, sv7, rb7, -, hb⟩
                have HBX1 := Lib.hid (bel_then HBX0.out hb)
                have S7 := Lib.hid sv7
                have RA := Lib.hid rb7
                clear sv7 rb7
                obtain ⟨s1, s2, s4⟩ := HCJ.out X1 HBX1.out
                refine hK.out _ _ ⟨s1, s2, s4⟩ (fun _ => ?_)
                clear s1 s2 s4 hb
                try simp only [Act.put, List.getElem_toArray, List.getElem_cons_zero, List.getElem_cons_succ, List.setIfInBounds_toArray, List.set_cons_zero, List.set_cons_succ]
                refine wpAnyH_ready (rs := [22, 25]) (by kernel_rfl) (by simp) ?_
                refine AllReadyH.cons (o_at HG 22 rfl) ?_ (AllReadyH.cons (o_at HG 25 rfl) ?_ (AllReadyH.nil))
                · intro K' hK
                  rw [if_pos (by kernel_rfl)]
                  go_simp
                  (with_reducible refine (HPUT.out X1).mono ?_)
                  rintro e X2 ⟨A8, c8, rfl, sv8, rb8, -, hb⟩
                  have HBX2 := Lib.hid (bel_then HBX1.out hb)
                  have RA2 := Lib.hid (RA.out.below hb)
                  clear RA
                  have RA := RA2
                  clear RA2
                  have S8 := Lib.hid sv8
                  have RB8 := Lib.hid rb8
                  clear sv8 rb8
                  obtain ⟨s1, s2, s4⟩ := HCJ.out X2 HBX2.out
                  refine hK.out _ _ ⟨s1, s2, s4⟩ (fun _ => ?_)
                  clear s1 s2 s4 hb
                  try simp only [Act.put, List.getElem_toArray, List.getElem_cons_zero, List.getElem_cons_succ, List.setIfInBounds_toArray, List.set_cons_zero, List.set_cons_succ]
                  refine wpAnyH_ready (rs := [23, 25]) (by kernel_rfl) (by simp) ?_
                  refine AllReadyH.cons (o_at HG 23 rfl) ?_ (AllReadyH.cons (o_at HG 25 rfl) ?_ (AllReadyH.nil))
                  · intro K' hK
                    rw [if_pos (by kernel_rfl)]
                    go_simp
                    have hb := bel_alloc (Below.refl X2.heap.size X2) (.cells #[.slice A7 4 c7, .slice A8 4 c8] 22)
                    have hrl := RL.two (w := X2) 22 RA.out (c := c7) (by rw [sumN_length]; exact S7.out) RB8.out (c2 := c8) (by rw [putN_length]; exact S8.out) (n := X2.heap.size) rfl
                    rw [sumN_length, putN_length] at hrl
                    generalize X2.alloc (.cells #[.slice A7 4 c7, .slice A8 4 c8] 22) = X3 at *
                    obtain ⟨k78, hk78⟩ : ∃ k, k = X2.heap.size := ⟨_, rfl⟩
                    rw [← hk78] at hrl ⊢
                    clear hk78
                    have HBX3 := Lib.hid (bel_then HBX2.out hb)
                    have RA2 := Lib.hid (RA.out.below hb)
                    clear RA
                    have RA := RA2
                    clear RA2
                    have RB82 := Lib.hid (RB8.out.below hb)
                    clear RB8
                    have RB8 := RB82
                    clear RB82
                    have HRL := Lib.hid hrl
                    clear hrl
                    obtain ⟨s1, s2, s4⟩ := HCJ.out X3 HBX3.out
                    refine hK.out _ _ ⟨s1, s2, s4⟩ (fun _ => ?_)
                    clear s1 s2 s4 hb
                    try simp only [Act.put, List.getElem_toArray, List.getElem_cons_zero, List.getElem_cons_succ, List.setIfInBounds_toArray, List.set_cons_zero, List.set_cons_succ]
                    refine wpAnyH_ready (rs := [24, 25]) (by kernel_rfl) (by simp) ?_
                    refine AllReadyH.cons (o_at HG 24 rfl) ?_ (AllReadyH.cons (o_at HG 25 rfl) ?_ (AllReadyH.nil))
                    · intro K' hK
                      rw [if_pos (by kernel_rfl)]
                      go_simp
                      (with_reducible refine (HCAT.out X3 k78 HRL.out).mono ?_)
                      rintro e X4 ⟨v9, rfl, ob9, hb⟩
                      have HBX4 := Lib.hid (bel_then HBX3.out hb)
                      have HRL2 := Lib.hid (RL_below HRL.out hb)
                      clear HRL
                      have HRL := HRL2
                      clear HRL2
                      have O9 := Lib.hid (own_mono_OB ob9 HBX3.out.size)
                      clear ob9
                      obtain ⟨s1, s2, s4⟩ := HCJ.out X4 HBX4.out
                      refine hK.out _ _ ⟨s1, s2, s4⟩ (fun _ => ?_)
                      clear s1 s2 s4 hb
                      try simp only [Act.put, List.getElem_toArray, List.getElem_cons_zero, List.getElem_cons_succ, List.setIfInBounds_toArray, List.set_cons_zero, List.set_cons_succ]
                      refine wpAnyH_ready (rs := [25]) (by kernel_rfl) (by simp) ?_
                      refine AllReadyH.cons (o_at HG 25 rfl) ?_ (AllReadyH.nil)
                      · intro K' hK
                        rw [if_pos (by kernel_rfl)]
                        go_simp
                        have hb := bel_alloc (Below.refl X4.heap.size X4) (.cells #[.int .u8 165] 5)
                        have rk := RB.lit X4 5 (0, 0) [165] (by simp) _ rfl #[.int .u8 165] rfl
                        generalize X4.alloc (.cells #[.int .u8 165] 5) = X5 at *
                        obtain ⟨k80, hk80⟩ : ∃ k, k = X4.heap.size := ⟨_, rfl⟩
                        rw [← hk80] at rk ⊢
                        clear hk80
                        have HBX5 := Lib.hid (bel_then HBX4.out hb)
                        have O92 := Lib.hid (O9.out.below hb)
                        clear O9
                        have O9 := O92
                        clear O92
                        have RK := Lib.hid rk
                        clear rk
                        obtain ⟨s1, s2, s4⟩ := HCJ.out X5 HBX5.out
                        refine hK.out _ _ ⟨s1, s2, s4⟩ (fun _ => ?_)
                        clear s1 s2 s4 hb
                        try simp only [Act.put, List.getElem_toArray, List.getElem_cons_zero, List.getElem_cons_succ, List.setIfInBounds_toArray, List.set_cons_zero, List.set_cons_succ]
                        refine wpAnyH_ready (rs := [26]) (by kernel_rfl) (by simp) ?_
                        refine AllReadyH.cons (o_at HG 26 rfl) ?_ (AllReadyH.nil)
                        · intro K' hK
                          refine step_app_bytes (by kernel_rfl) _ _ 22 rfl wc.heap.size 5 Try.underlying22 info5 v9 [sumN num (rl + 1) b, putN (bl + 1) 4].flatten rfl O9.out (some ⟨k80, 0, none⟩) 1 [165] rfl (fun e => by cases e) RK.out (by simp [sumN_length, putN_length]) HBX5.out.size ?_
                          intro v10 X6 ho hg hv
                          have hb := bel_grown HBX5.out hg (fun k e => O9.out.base_ k e)
                          have hfl : [sumN num (rl + 1) b, putN (bl + 1) 4].flatten ++ [165] = leadB num (rl + 1) b := by unfold leadB; rw [HBL.out]; simp
                          rw [hfl] at ho
                          obtain ⟨AL, cL, eL, -, rbL⟩ := ho.reads
                          have hbsL := ho.base_
                          rw [leadB_len] at eL
                          subst eL
                          have RL9 := Lib.hid rbL
                          have HFR : Hid (∀ ad, AL = some ad → wc.heap.size ≤ ad.block) := Lib.hid (fun ad e => hbsL ad.block (by rw [e]; rfl))
                          have HBX6 := Lib.hid hb
                          obtain ⟨s1, s2, s4⟩ := HCJ.out X6 HBX6.out
                          refine hK.out _ _ ⟨s1, s2, s4⟩ (fun _ => ?_)
                          clear s1 s2 s4 hb ho hg hv hfl rbL hbsL
                          try simp only [Act.put, List.getElem_toArray, List.getElem_cons_zero, List.getElem_cons_succ, List.setIfInBounds_toArray, List.set_cons_zero, List.set_cons_succ]
                          refine wpAnyH_ready (rs := [27]) (by kernel_rfl) (by simp) ?_
                          refine AllReadyH.cons (o_at HG 27 rfl) ?_ (AllReadyH.nil)
                          · intro K' hK
                            rw [if_pos (by kernel_rfl)]
                            go_simp
                            (with_reducible refine (HHD.out X6 AL cL HBX6.out RL9.out HFR.out).mono ?_)
                            rintro e X7 ⟨x3, d3, col4, rfl, p2, dd2, aa2⟩
                            obtain ⟨g1, g2, g3⟩ := HGR.out X6 HBX6.out
                            have P5 := Lib.hid (g1.trans (p2.mono HTO.out))
                            have D5 := Lib.hid dd2
                            have J5 := Lib.hid (g2.path p2 HON.out)
                            have R5 := Lib.hid (RC.path g3 p2 HOC.out)
                            have A5 := Lib.hid aa2
                            obtain ⟨vg, jg⟩ := g2
                            have hkb := (p2.kept (k := gj) jg.lt (fun i hi => by rw [jg.hcol]; exact (HON.out i hi).2)).1
                            obtain ⟨q1, q2, q4⟩ := HCJ.out X6 HBX6.out
                            have kk1 := (World.cell?_of_block (a := ⟨gj, 1, none⟩) hkb).trans q1
                            have kk2 := (World.cell?_of_block (a := ⟨gj, 2, none⟩) hkb).trans q2
                            have kk4 := (World.cell?_of_block (a := ⟨gj, 4, none⟩) hkb).trans q4
                            refine hK.out _ _ ⟨kk1, kk2, kk4⟩ (fun _ => ?_)
                            clear kk1 kk2 kk4 q1 q2 q4 hkb jg g1 g3 p2 dd2 aa2
                            try simp only [Act.put, List.getElem_toArray, List.getElem_cons_zero, List.getElem_cons_succ, List.setIfInBounds_toArray, List.set_cons_zero, List.set_cons_succ]
                            refine wpAnyH_take (i := 28) (v := ?_) (o_at HG 28 rfl) Gns (by kernel_rfl) (by kernel_rfl) (fun _ _ _ h => h) (Or.inl ⟨(by kernel_rfl), ?_⟩) (by first | trivial | assumption) ?_
                            rotate_left
                            · (intro w hSw; (try dsimp only at hSw); go_simp; try with_reducible rfl)
                            try simp only [Act.put, List.getElem_toArray, List.getElem_cons_zero, List.getElem_cons_succ, List.setIfInBounds_toArray, List.set_cons_zero, List.set_cons_succ]
                            refine wpAnyH_done (by kernel_rfl) ?_ _
                            go_wp2
                            go_meet
                            exact ⟨x3, d3, col4, rfl, P5, D5, J5, R5, Lib.hid (by have := A5.out; rw [HRL0.out] at this; exact this)⟩
                    · intro K' hK
                      rw [if_pos (by kernel_rfl)]
                      go_simp
                      have hb := bel_alloc (Below.refl X3.heap.size X3) (.cells #[.int .u8 165] 5)
                      have rk := RB.lit X3 5 (0, 0) [165] (by simp) _ rfl #[.int .u8 165] rfl
                      generalize X3.alloc (.cells #[.int .u8 165] 5) = X4 at *
                      obtain ⟨k80, hk80⟩ : ∃ k, k = X3.heap.size := ⟨_, rfl⟩
                      rw [← hk80] at rk ⊢
                      clear hk80
                      have HBX4 := Lib.hid (bel_then HBX3.out hb)
                      have HRL2 := Lib.hid (RL_below HRL.out hb)
                      clear HRL
                      have HRL := HRL2
                      clear HRL2
                      have RK := Lib.hid rk
                      clear rk
                      obtain ⟨s1, s2, s4⟩ := HCJ.out X4 HBX4.out
                      refine hK.out _ _ ⟨s1, s2, s4⟩ (fun _ => ?_)
                      clear s1 s2 s4 hb
                      try simp only [Act.put, List.getElem_toArray, List.getElem_cons_zero, List.getElem_cons_succ, List.setIfInBounds_toArray, List.set_cons_zero, List.set_cons_succ]
                      refine wpAnyH_ready (rs := [24]) (by kernel_rfl) (by simp) ?_
                      refine AllReadyH.cons (o_at HG 24 rfl) ?_ (AllReadyH.nil)
                      · intro K' hK
                        rw [if_pos (by kernel_rfl)]
                        go_simp
                        (with_reducible refine (HCAT.out X4 k78 HRL.out).mono ?_)
                        rintro e X5 ⟨v9, rfl, ob9, hb⟩
                        have HBX5 := Lib.hid (bel_then HBX4.out hb)
                        have RK2 := Lib.hid (RK.out.below hb)
                        clear RK
                        have RK := RK2
                        clear RK2
                        have HRL2 := Lib.hid (RL_below HRL.out hb)
                        clear HRL
                        have HRL := HRL2
                        clear HRL2
                        have O9 := Lib.hid (own_mono_OB ob9 HBX4.out.size)
                        clear ob9
                        obtain ⟨s1, s2, s4⟩ := HCJ.out X5 HBX5.out
                        refine hK.out _ _ ⟨s1, s2, s4⟩ (fun _ => ?_)
                        clear s1 s2 s4 hb
                        try simp only [Act.put, List.getElem_toArray, List.getElem_cons_zero, List.getElem_cons_succ, List.setIfInBounds_toArray, List.set_cons_zero, List.set_cons_succ]
                        refine wpAnyH_ready (rs := [26]) (by kernel_rfl) (by simp) ?_
                        refine AllReadyH.cons (o_at HG 26 rfl) ?_ (AllReadyH.nil)
                        · intro K' hK
                          refine step_app_bytes (by kernel_rfl) _ _ 22 rfl wc.heap.size 5 Try.underlying22 info5 v9 [sumN num (rl + 1) b, putN (bl + 1) 4].flatten rfl O9.out (some ⟨k80, 0, none⟩) 1 [165] rfl (fun e => by cases e) RK.out (by simp [sumN_length, putN_length]) HBX5.out.size ?_
                          intro v10 X6 ho hg hv
                          have hb := bel_grown HBX5.out hg (fun k e => O9.out.base_ k e)
                          have hfl : [sumN num (rl + 1) b, putN (bl + 1) 4].flatten ++ [165] = leadB num (rl + 1) b := by unfold leadB; rw [HBL.out]; simp
                          rw [hfl] at ho
                          obtain ⟨AL, cL, eL, -, rbL⟩ := ho.reads
                          have hbsL := ho.base_
                          rw [leadB_len] at eL
                          subst eL
                          have RL9 := Lib.hid rbL
                          have HFR : Hid (∀ ad, AL = some ad → wc.heap.size ≤ ad.block) := Lib.hid (fun ad e => hbsL ad.block (by rw [e]; rfl))
                          have HBX6 := Lib.hid hb
                          obtain ⟨s1, s2, s4⟩ := HCJ.out X6 HBX6.out
                          refine hK.out _ _ ⟨s1, s2, s4⟩ (fun _ => ?_)
                          clear s1 s2 s4 hb ho hg hv hfl rbL hbsL
                          try simp only [Act.put, List.getElem_toArray, List.getElem_cons_zero, List.getElem_cons_succ, List.setIfInBounds_toArray, List.set_cons_zero, List.set_cons_succ]
                          refine wpAnyH_ready (rs := [27]) (by kernel_rfl) (by simp) ?_
                          refine AllReadyH.cons (o_at HG 27 rfl) ?_ (AllReadyH.nil)
                          · intro K' hK
                            rw [if_pos (by kernel_rfl)]
                            go_simp
                            (with_reducible refine (HHD.out X6 AL cL HBX6.out RL9.out HFR.out).mono ?_)
                            rintro e X7 ⟨x3, d3, col4, rfl, p2, dd2, aa2⟩
                            obtain ⟨g1, g2, g3⟩ := HGR.out X6 HBX6.out
                            have P5 := Lib.hid (g1.trans (p2.mono HTO.out))
                            have D5 := Lib.hid dd2
                            have J5 := Lib.hid (g2.path p2 HON.out)
                            have R5 := Lib.hid (RC.path g3 p2 HOC.out)
                            have A5 := Lib.hid aa2
                            obtain ⟨vg, jg⟩ := g2
                            have hkb := (p2.kept (k := gj) jg.lt (fun i hi => by rw [jg.hcol]; exact (HON.out i hi).2)).1
                            obtain ⟨q1, q2, q4⟩ := HCJ.out X6 HBX6.out
                            have kk1 := (World.cell?_of_block (a := ⟨gj, 1, none⟩) hkb).trans q1
                            have kk2 := (World.cell?_of_block (a := ⟨gj, 2, none⟩) hkb).trans q2
                            have kk4 := (World.cell?_of_block (a := ⟨gj, 4, none⟩) hkb).trans q4
                            refine hK.out _ _ ⟨kk1, kk2, kk4⟩ (fun _ => ?_)
                            clear kk1 kk2 kk4 q1 q2 q4 hkb jg g1 g3 p2 dd2 aa2
                            try simp only [Act.put, List.getElem_toArray, List.getElem_cons_zero, List.getElem_cons_succ, List.setIfInBounds_toArray, List.set_cons_zero, List.set_cons_succ]
                            refine wpAnyH_take (i := 28) (v := ?_) (o_at HG 28 rfl) Gns (by kernel_rfl) (by kernel_rfl) (fun _ _ _ h => h) (Or.inl ⟨(by kernel_rfl), ?_⟩) (by first | trivial | assumption) ?_
                            rotate_left
                            · (intro w hSw; (try dsimp only at hSw); go_simp; try with_reducible rfl)
                            try simp only [Act.put, List.getElem_toArray, List.getElem_cons_zero, List.getElem_cons_succ, List.setIfInBounds_toArray, List.set_cons_zero, List.set_cons_succ]
                            refine wpAnyH_done (by kernel_rfl) ?_ _
                            go_wp2
                            go_meet
                            exact ⟨x3, d3, col4, rfl, P5, D5, J5, R5, Lib.hid (by have := A5.out; rw [HRL0.out] at this; exact this)⟩
                  · intro K' hK
                    rw [if_pos (by kernel_rfl)]
                    go_simp
                    have hb := bel_alloc (Below.refl X2.heap.size X2) (.cells #[.int .u8 165] 5)
                    have rk := RB.lit X2 5 (0, 0) [165] (by simp) _ rfl #[.int .u8 165] rfl
                    generalize X2.alloc (.cells #[.int .u8 165] 5) = X3 at *
                    obtain ⟨k80, hk80⟩ : ∃ k, k = X2.heap.size := ⟨_, rfl⟩
                    rw [← hk80] at rk ⊢
                    clear hk80
                    have HBX3 := Lib.hid (bel_then HBX2.out hb)
                    have RA2 := Lib.hid (RA.out.below hb)
                    clear RA
                    have RA := RA2
                    clear RA2
                    have RB82 := Lib.hid (RB8.out.below hb)
                    clear RB8
                    have RB8 := RB82
                    clear RB82
                    have RK := Lib.hid rk
                    clear rk
                    obtain ⟨s1, s2, s4⟩ := HCJ.out X3 HBX3.out
                    refine hK.out _ _ ⟨s1, s2, s4⟩ (fun _ => ?_)
                    clear s1 s2 s4 hb
                    try simp only [Act.put, List.getElem_toArray, List.getElem_cons_zero, List.getElem_cons_succ, List.setIfInBounds_toArray, List.set_cons_zero, List.set_cons_succ]
                    refine wpAnyH_ready (rs := [23]) (by kernel_rfl) (by simp) ?_
                    refine AllReadyH.cons (o_at HG 23 rfl) ?_ (AllReadyH.nil)
                    · intro K' hK
                      rw [if_pos (by kernel_rfl)]
                      go_simp
                      have hb := bel_alloc (Below.refl X3.heap.size X3) (.cells #[.slice A7 4 c7, .slice A8 4 c8] 22)
                      have hrl := RL.two (w := X3) 22 RA.out (c := c7) (by rw [sumN_length]; exact S7.out) RB8.out (c2 := c8) (by rw [putN_length]; exact S8.out) (n := X3.heap.size) rfl
                      rw [sumN_length, putN_length] at hrl
                      generalize X3.alloc (.cells #[.slice A7 4 c7, .slice A8 4 c8] 22) = X4 at *
                      obtain ⟨k78, hk78⟩ : ∃ k, k = X3.heap.size := ⟨_, rfl⟩
                      rw [← hk78] at hrl ⊢
                      clear hk78
                      have HBX4 := Lib.hid (bel_then HBX3.out hb)
                      have RA2 := Lib.hid (RA.out.below hb)
                      clear RA
                      have RA := RA2
                      clear RA2
                      have RB82 := Lib.hid (RB8.out.below hb)
                      clear RB8
                      have RB8 := RB82
                      clear RB82
                      have RK2 := Lib.hid (RK.out.below hb)
                      clear RK
                      have RK := RK2
                      clear RK2
                      have HRL := Lib.hid hrl
                      clear hrl
                      obtain ⟨s1, s2, s4⟩ := HCJ.out X4 HBX4.out
                      refine hK.out _ _ ⟨s1, s2, s4⟩ (fun _ => ?_)
                      clear s1 s2 s4 hb
                      try simp only [Act.put, List.getElem_toArray, List.getElem_cons_zero, List.getElem_cons_succ, List.setIfInBounds_toArray, List.set_cons_zero, List.set_cons_succ]
                      refine wpAnyH_ready (rs := [24]) (by kernel_rfl) (by simp) ?_
                      refine AllReadyH.cons (o_at HG 24 rfl) ?_ (AllReadyH.nil)
                      · intro K' hK
                        rw [if_pos (by kernel_rfl)]
                        go_simp
                        (with_reducible refine (HCAT.out X4 k78 HRL.out).mono ?_)
                        rintro e X5 ⟨v9, rfl, ob9, hb⟩
                        have HBX5 := Lib.hid (bel_then HBX4.out hb)
                        have RK2 := Lib.hid (RK.out.below hb)
                        clear RK
                        have RK := RK2
                        clear RK2
                        have HRL2 := Lib.hid (RL_below HRL.out hb)
                        clear HRL
                        have HRL := HRL2
                        clear HRL2
                        have O9 := Lib.hid (own_mono_OB ob9 HBX4.out.size)
                        clear ob9
                        obtain ⟨s1, s2, s4⟩ := HCJ.out X5 HBX5.out
                        refine hK.out _ _ ⟨s1, s2, s4⟩ (fun _ => ?_)
                        clear s1 s2 s4 hb
                        try simp only [Act.put, List.getElem_toArray, List.getElem_cons_zero, List.getElem_cons_succ, List.setIfInBounds_toArray, List.set_cons_zero, List.set_cons_succ]
                        refine wpAnyH_ready (rs := [26]) (by kernel_rfl) (by simp) ?_
                        refine AllReadyH.cons (o_at HG 26 rfl) ?_ (AllReadyH.nil)
                        · intro K' hK
                          refine step_app_bytes (by kernel_rfl) _ _ 22 rfl wc.heap.size 5 Try.underlying22 info5 v9 [sumN num (rl + 1) b, putN (bl + 1) 4].flatten rfl O9.out (some ⟨k80, 0, none⟩) 1 [165] rfl (fun e => by cases e) RK.out (by simp [sumN_length, putN_length]) HBX5.out.size ?_
                          intro v10 X6 ho hg hv
                          have hb := bel_grown HBX5.out hg (fun k e => O9.out.base_ k e)
                          have hfl : [sumN num (rl + 1) b, putN (bl + 1) 4].flatten ++ [165] = leadB num (rl + 1) b := by unfold leadB; rw [HBL.out]; simp
                          rw [hfl] at ho
                          obtain ⟨AL, cL, eL, -, rbL⟩ := ho.reads
                          have hbsL := ho.base_
                          rw [leadB_len] at eL
                          subst eL
                          have RL9 := Lib.hid rbL
                          have HFR : Hid (∀ ad, AL = some ad → wc.heap.size ≤ ad.block) := Lib.hid (fun ad e => hbsL ad.block (by rw [e]; rfl))
                          have HBX6 := Lib.hid hb
                          obtain ⟨s1, s2, s4⟩ := HCJ.out X6 HBX6.out
                          refine hK.out _ _ ⟨s1, s2, s4⟩ (fun _ => ?_)
                          clear s1 s2 s4 hb ho hg hv hfl rbL hbsL
                          try simp only [Act.put, List.getElem_toArray, List.getElem_cons_zero, List.getElem_cons_succ, List.setIfInBounds_toArray, List.set_cons_zero, List.set_cons_succ]
                          refine wpAnyH_ready (rs := [27]) (by kernel_rfl) (by simp) ?_
                          refine AllReadyH.cons (o_at HG 27 rfl) ?_ (AllReadyH.nil)
                          · intro K' hK
                            rw [if_pos (by kernel_rfl)]
                            go_simp
                            (with_reducible refine (HHD.out X6 AL cL HBX6.out RL9.out HFR.out).mono ?_)
                            rintro e X7 ⟨x3, d3, col4, rfl, p2, dd2, aa2⟩
                            obtain ⟨g1, g2, g3⟩ := HGR.out X6 HBX6.out
                            have P5 := Lib.hid (g1.trans (p2.mono HTO.out))
                            have D5 := Lib.hid dd2
                            have J5 := Lib.hid (g2.path p2 HON.out)
                            have R5 := Lib.hid (RC.path g3 p2 HOC.out)
                            have A5 := Lib.hid aa2
                            obtain ⟨vg, jg⟩ := g2
                            have hkb := (p2.kept (k := gj) jg.lt (fun i hi => by rw [jg.hcol]; exact (HON.out i hi).2)).1
                            obtain ⟨q1, q2, q4⟩ := HCJ.out X6 HBX6.out
                            have kk1 := (World.cell?_of_block (a := ⟨gj, 1, none⟩) hkb).trans q1
                            have kk2 := (World.cell?_of_block (a := ⟨gj, 2, none⟩) hkb).trans q2
                            have kk4 := (World.cell?_of_block (a := ⟨gj, 4, none⟩) hkb).trans q4
                            refine hK.out _ _ ⟨kk1, kk2, kk4⟩ (fun _ => ?_)
                            clear kk1 kk2 kk4 q1 q2 q4 hkb jg g1 g3 p2 dd2 aa2
                            try simp only [Act.put, List.getElem_toArray, List.getElem_cons_zero, List.getElem_cons_succ, List.setIfInBounds_toArray, List.set_cons_zero, List.set_cons_succ]
                            refine wpAnyH_take (i := 28) (v := ?_) (o_at HG 28 rfl) Gns (by kernel_rfl) (by kernel_rfl) (fun _ _ _ h => h) (Or.inl ⟨(by kernel_rfl), ?_⟩) (by first | trivial | assumption) ?_
                            rotate_left
                            · (intro w hSw; (try dsimp only at hSw); go_simp; try with_reducible rfl)
                            try simp only [Act.put, List.getElem_toArray, List.getElem_cons_zero, List.getElem_cons_succ, List.setIfInBounds_toArray, List.set_cons_zero, List.set_cons_succ]
                            refine wpAnyH_done (by kernel_rfl) ?_ _
                            go_wp2
                            go_meet
                            exact ⟨x3, d3, col4, rfl, P5, D5, J5, R5, Lib.hid (by have := A5.out; rw [HRL0.out] at this; exact this)⟩
                · intro K' hK
                  rw [if_pos (by kernel_rfl)]
                  go_simp
                  have hb := bel_alloc (Below.refl X1.heap.size X1) (.cells #[.int .u8 165] 5)
                  have rk := RB.lit X1 5 (0, 0) [165] (by simp) _ rfl #[.int .u8 165] rfl
                  generalize X1.alloc (.cells #[.int .u8 165] 5) = X2 at *
                  obtain ⟨k80, hk80⟩ : ∃ k, k = X1.heap.size := ⟨_, rfl⟩
                  rw [← hk80] at rk ⊢
                  clear hk80
                  have HBX2 := Lib.hid (bel_then HBX1.out hb)
                  have RA2 := Lib.hid (RA.out.below hb)
                  clear RA
                  have RA := RA2
                  clear RA2
                  have RK := Lib.hid rk
                  clear rk
                  obtain ⟨s1, s2, s4⟩ := HCJ.out X2 HBX2.out
                  refine hK.out _ _ ⟨s1, s2, s4⟩ (fun _ => ?_)
                  clear s1 s2 s4 hb
                  try simp only [Act.put, List.getElem_toArray, List.getElem_cons_zero, List.getElem_cons_succ, List.setIfInBounds_toArray, List.set_cons_zero, List.set_cons_succ]
                  refine wpAnyH_ready (rs := [22]) (by kernel_rfl) (by simp) ?_
                  refine AllReadyH.cons (o_at HG 22 rfl) ?_ (AllReadyH.nil)
                  · intro K' hK
                    rw [if_pos (by kernel_rfl)]
                    go_simp
                    (with_reducible refine (HPUT.out X2).mono ?_)
                    rintro e X3 ⟨A8, c8, rfl, sv8, rb8, -, hb⟩
                    have HBX3 := Lib.hid (bel_then HBX2.out hb)
                    have RA2 := Lib.hid (RA.out.below hb)
                    clear RA
                    have RA := RA2
                    clear RA2
                    have RK2 := Lib.hid (RK.out.below hb)
                    clear RK
                    have RK := RK2
                    clear RK2
                    have S8 := Lib.hid sv8
                    have RB8 := Lib.hid rb8
                    clear sv8 rb8
                    obtain ⟨s1, s2, s4⟩ := HCJ.out X3 HBX3.out
                    refine hK.out _ _ ⟨s1, s2, s4⟩ (fun _ => ?_)
                    clear s1 s2 s4 hb
                    try simp only [Act.put, List.getElem_toArray, List.getElem_cons_zero, List.getElem_cons_succ, List.setIfInBounds_toArray, List.set_cons_zero, List.set_cons_succ]
                    refine wpAnyH_ready (rs := [23]) (by kernel_rfl) (by simp) ?_
                    refine AllReadyH.cons (o_at HG 23 rfl) ?_ (AllReadyH.nil)
                    · intro K' hK
                      rw [if_pos (by kernel_rfl)]
                      go_simp
                      have hb := bel_alloc (Below.refl X3.heap.size X3) (.cells #[.slice A7 4 c7, .slice A8 4 c8] 22)
                      have hrl := RL.two (w := X3) 22 RA.out (c := c7) (by rw [sumN_length]; exact S7.out) RB8.out (c2 := c8) (by rw [putN_length]; exact S8.out) (n := X3.heap.size) rfl
                      rw [sumN_length, putN_length] at hrl
                      generalize X3.alloc (.cells #[.slice A7 4 c7, .slice A8 4 c8] 22) = X4 at *
                      obtain ⟨k78, hk78⟩ : ∃ k, k = X3.heap.size := ⟨_, rfl⟩
                      rw [← hk78] at hrl ⊢
                      clear hk78
                      have HBX4 := Lib.hid (bel_then HBX3.out hb)
                      have RA2 := Lib.hid (RA.out.below hb)
                      clear RA
                      have RA := RA2
                      clear RA2
                      have RB82 := Lib.hid (RB8.out.below hb)
                      clear RB8
                      have RB8 := RB82
                      clear RB82
                      have RK2 := Lib.hid (RK.out.below hb)
                      clear RK
                      have RK := RK2
                      clear RK2
                      have HRL := Lib.hid hrl
                      clear hrl
                      obtain ⟨s1, s2, s4⟩ := HCJ.out X4 HBX4.out
                      refine hK.out _ _ ⟨s1, s2, s4⟩ (fun _ => ?_)
                      clear s1 s2 s4 hb
                      try simp only [Act.put, List.getElem_toArray, List.getElem_cons_zero, List.getElem_cons_succ, List.setIfInBounds_toArray, List.set_cons_zero, List.set_cons_succ]
                      refine wpAnyH_ready (rs := [24]) (by kernel_rfl) (by simp) ?_
                      refine AllReadyH.cons (o_at HG 24 rfl) ?_ (AllReadyH.nil)
                      · intro K' hK
                        rw [if_pos (by kernel_rfl)]
                        go_simp
                        (with_reducible refine (HCAT.out X4 k78 HRL.out).mono ?_)
                        rintro e X5 ⟨v9, rfl, ob9, hb⟩
                        have HBX5 := Lib.hid (bel_then HBX4.out hb)
                        have RK2 := Lib.hid (RK.out.below hb)
                        clear RK
                        have RK := RK2
                        clear RK2
                        have HRL2 := Lib.hid (RL_below HRL.out hb)
                        clear HRL
                        have HRL := HRL2
                        clear HRL2
                        have O9 := Lib.hid (own_mono_OB ob9 HBX4.out.size)
                        clear ob9
                        obtain ⟨s1, s2, s4⟩ := HCJ.out X5 HBX5.out
                        refine hK.out _ _ ⟨s1, s2, s4⟩ (fun _ => ?_)
                        clear s1 s2 s4 hb
                        try simp only [Act.put, List.getElem_toArray, List.getElem_cons_zero, List.getElem_cons_succ, List.setIfInBounds_toArray, List.set_cons_zero, List.set_cons_succ]
                        refine wpAnyH_ready (rs := [26]) (by kernel_rfl) (by simp) ?_
                        refine AllReadyH.cons (o_at HG 26 rfl) ?_ (AllReadyH.nil)
                        · intro K' hK
                          refine step_app_bytes (by kernel_rfl) _ _ 22 rfl wc.heap.size 5 Try.underlying22 info5 v9 [sumN num (rl + 1) b, putN (bl + 1) 4].flatten rfl O9.out (some ⟨k80, 0, none⟩) 1 [165] rfl (fun e => by cases e) RK.out (by simp [sumN_length, putN_length]) HBX5.out.size ?_
                          intro v10 X6 ho hg hv
                          have hb := bel_grown HBX5.out hg (fun k e => O9.out.base_ k e)
                          have hfl : [sumN num (rl + 1) b, putN (bl + 1) 4].flatten ++ [165] = leadB num (rl + 1) b := by unfold leadB; rw [HBL.out]; simp
                          rw [hfl] at ho
                          obtain ⟨AL, cL, eL, -, rbL⟩ := ho.reads
                          have hbsL := ho.base_
                          rw [leadB_len] at eL
                          subst eL
                          have RL9 := Lib.hid rbL
                          have HFR : Hid (∀ ad, AL = some ad → wc.heap.size ≤ ad.block) := Lib.hid (fun ad e => hbsL ad.block (by rw [e]; rfl))
                          have HBX6 := Lib.hid hb
                          obtain ⟨s1, s2, s4⟩ := HCJ.out X6 HBX6.out
                          refine hK.out _ _ ⟨s1, s2, s4⟩ (fun _ => ?_)
                          clear s1 s2 s4 hb ho hg hv hfl rbL hbsL
                          try simp only [Act.put, List.getElem_toArray, List.getElem_cons_zero, List.getElem_cons_succ, List.setIfInBounds_toArray, List.set_cons_zero, List.set_cons_succ]
                          refine wpAnyH_ready (rs := [27]) (by kernel_rfl) (by simp) ?_
                          refine AllReadyH.cons (o_at HG 27 rfl) ?_ (AllReadyH.nil)
                          · intro K' hK
                            rw [if_pos (by kernel_rfl)]
                            go_simp
                            (with_reducible refine (HHD.out X6 AL cL HBX6.out RL9.out HFR.out).mono ?_)
                            rintro e X7 ⟨x3, d3, col4, rfl, p2, dd2, aa2⟩
                            obtain ⟨g1, g2, g3⟩ := HGR.out X6 HBX6.out
                            have P5 := Lib.hid (g1.trans (p2.mono HTO.out))
                            have D5 := Lib.hid dd2
                            have J5 := Lib.hid (g2.path p2 HON.out)
                            have R5 := Lib.hid (RC.path g3 p2 HOC.out)
                            have A5 := Lib.hid aa2
                            obtain ⟨vg, jg⟩ := g2
                            have hkb := (p2.kept (k := gj) jg.lt (fun i hi => by rw [jg.hcol]; exact (HON.out i hi).2)).1
                            obtain ⟨q1, q2, q4⟩ := HCJ.out X6 HBX6.out
                            have kk1 := (World.cell?_of_block (a := ⟨gj, 1, none⟩) hkb).trans q1
                            have kk2 := (World.cell?_of_block (a := ⟨gj, 2, none⟩) hkb).trans q2
                            have kk4 := (World.cell?_of_block (a := ⟨gj, 4, none⟩) hkb).trans q4
                            refine hK.out _ _ ⟨kk1, kk2, kk4⟩ (fun _ => ?_)
                            clear kk1 kk2 kk4 q1 q2 q4 hkb jg g1 g3 p2 dd2 aa2
                            try simp only [Act.put, List.getElem_toArray, List.getElem_cons_zero, List.getElem_cons_succ, List.setIfInBounds_toArray, List.set_cons_zero, List.set_cons_succ]
                            refine wpAnyH_take (i := 28) (v := ?_) (o_at HG 28 rfl) Gns (by kernel_rfl) (by kernel_rfl) (fun _ _ _ h => h) (Or.inl ⟨(by kernel_rfl), ?_⟩) (by first | trivial | assumption) ?_
                            rotate_left
                            · (intro w hSw; (try dsimp only at hSw); go_simp; try with_reducible rfl)
                            try simp only [Act.put, List.getElem_toArray, List.getElem_cons_zero, List.getElem_cons_succ, List.setIfInBounds_toArray, List.set_cons_zero, List.set_cons_succ]
                            refine wpAnyH_done (by kernel_rfl) ?_ _
                            go_wp2
                            go_meet
                            exact ⟨x3, d3, col4, rfl, P5, D5, J5, R5, Lib.hid (by have := A5.out; rw [HRL0.out] at this; exact this)⟩
              · intro K' hK
                rw [if_pos (by kernel_rfl)]
                go_simp
                have hb := bel_alloc (Below.refl X0.heap.size X0) (.cells #[.int .u8 165] 5)
                have rk := RB.lit X0 5 (0, 0) [165] (by simp) _ rfl #[.int .u8 165] rfl
                generalize X0.alloc (.cells #[.int .u8 165] 5) = X1 at *
                obtain ⟨k80, hk80⟩ : ∃ k, k = X0.heap.size := ⟨_, rfl⟩
                rw [← hk80] at rk ⊢
                clear hk80
                have HBX1 := Lib.hid (bel_then HBX0.out hb)
                have RK := Lib.hid rk
                clear rk
                obtain ⟨s1, s2, s4⟩ := HCJ.out X1 HBX1.out
                refine hK.out _ _ ⟨s1, s2, s4⟩ (fun _ => ?_)
                clear s1 s2 s4 hb
                try simp only [Act.put, List.getElem_toArray, List.getElem_cons_zero, List.getElem_cons_succ, List.setIfInBounds_toArray, List.set_cons_zero, List.set_cons_succ]
                refine wpAnyH_ready (rs := [18]) (by kernel_rfl) (by simp) ?_
                refine AllReadyH.cons (o_at HG 18 rfl) ?_ (AllReadyH.nil)
                · intro K' hK
                  rw [if_pos (by kernel_rfl)]
                  go_simp
                  (with_reducible refine (HSUM.out X1 HBX1.out).mono ?_)
                  rintro e X2 ⟨A7, c7, rfl, sv7, rb7, -, hb⟩
                  have HBX2 := Lib.hid (bel_then HBX1.out hb)
                  have RK2 := Lib.hid (RK.out.below hb)
                  clear RK
                  have RK := RK2
                  clear RK2
                  have S7 := Lib.hid sv7
                  have RA := Lib.hid rb7
                  clear sv7 rb7
                  obtain ⟨s1, s2, s4⟩ := HCJ.out X2 HBX2.out
                  refine hK.out _ _ ⟨s1, s2, s4⟩ (fun _ => ?_)
                  clear s1 s2 s4 hb
                  try simp only [Act.put, List.getElem_toArray, List.getElem_cons_zero, List.getElem_cons_succ, List.setIfInBounds_toArray, List.set_cons_zero, List.set_cons_succ]
                  refine wpAnyH_ready (rs := [22]) (by kernel_rfl) (by simp) ?_
                  refine AllReadyH.cons (o_at HG 22 rfl) ?_ (AllReadyH.nil)
                  · intro K' hK
                    rw [if_pos (by kernel_rfl)]
                    go_simp
                    (with_reducible refine (HPUT.out X2).mono ?_)
                    rintro e X3 ⟨A8, c8, rfl, sv8, rb8, -, hb⟩
                    have HBX3 := Lib.hid (bel_then HBX2.out hb)
                    have RA2 := Lib.hid (RA.out.below hb)
                    clear RA
                    have RA := RA2
                    clear RA2
                    have RK2 := Lib.hid (RK.out.below hb)
                    clear RK
                    have RK := RK2
                    clear RK2
                    have S8 := Lib.hid sv8
                    have RB8 := Lib.hid rb8
                    clear sv8 rb8
                    obtain ⟨s1, s2, s4⟩ := HCJ.out X3 HBX3.out
                    refine hK.out _ _ ⟨s1, s2, s4⟩ (fun _ => ?_)
                    clear s1 s2 s4 hb
                    try simp only [Act.put, List.getElem_toArray, List.getElem_cons_zero, List.getElem_cons_succ, List.setIfInBounds_toArray, List.set_cons_zero, List.set_cons_succ]
                    refine wpAnyH_ready (rs := [23]) (by kernel_rfl) (by simp) ?_
                    refine AllReadyH.cons (o_at HG 23 rfl) ?_ (AllReadyH.nil)
                    · intro K' hK
                      rw [if_pos (by kernel_rfl)]
                      go_simp
                      have hb := bel_alloc (Below.refl X3.heap.size X3) (.cells #[.slice A7 4 c7, .slice A8 4 c8] 22)
                      have hrl := RL.two (w := X3) 22 RA.out (c := c7) (by rw [sumN_length]; exact S7.out) RB8.out (c2 := c8) (by rw [putN_length]; exact S8.out) (n := X3.heap.size) rfl
                      rw [sumN_length, putN_length] at hrl
                      generalize X3.alloc (.cells #[.slice A7 4 c7, .slice A8 4 c8] 22) = X4 at *
                      obtain ⟨k78, hk78⟩ : ∃ k, k = X3.heap.size := ⟨_, rfl⟩
                      rw [← hk78] at hrl ⊢
                      clear hk78
                      have HBX4 := Lib.hid (bel_then HBX3.out hb)
                      have RA2 := Lib.hid (RA.out.below hb)
                      clear RA
                      have RA := RA2
                      clear RA2
                      have RB82 := Lib.hid (RB8.out.below hb)
                      clear RB8
                      have RB8 := RB82
                      clear RB82
                      have RK2 := Lib.hid (RK.out.below hb)
                      clear RK
                      have RK := RK2
                      clear RK2
                      have HRL := Lib.hid hrl
                      clear hrl
                      obtain ⟨s1, s2, s4⟩ := HCJ.out X4 HBX4.out
                      refine hK.out _ _ ⟨s1, s2, s4⟩ (fun _ => ?_)
                      clear s1 s2 s4 hb
                      try simp only [Act.put, List.getElem_toArray, List.getElem_cons_zero, List.getElem_cons_succ, List.setIfInBounds_toArray, List.set_cons_zero, List.set_cons_succ]
                      refine wpAnyH_ready (rs := [24]) (by kernel_rfl) (by simp) ?_
                      refine AllReadyH.cons (o_at HG 24 rfl) ?_ (AllReadyH.nil)
                      · intro K' hK
                        rw [if_pos (by kernel_rfl)]
                        go_simp
                        (with_reducible refine (HCAT.out X4 k78 HRL.out).mono ?_)
                        rintro e X5 ⟨v9, rfl, ob9, hb⟩
                        have HBX5 := Lib.hid (bel_then HBX4.out hb)
                        have RK2 := Lib.hid (RK.out.below hb)
                        clear RK
                        have RK := RK2
                        clear RK2
                        have HRL2 := Lib.hid (RL_below HRL.out hb)
                        clear HRL
                        have HRL := HRL2
                        clear HRL2
                        have O9 := Lib.hid (own_mono_OB ob9 HBX4.out.size)
                        clear ob9
                        obtain ⟨s1, s2, s4⟩ := HCJ.out X5 HBX5.out
                        refine hK.out _ _ ⟨s1, s2, s4⟩ (fun _ => ?_)
                        clear s1 s2 s4 hb
                        try simp only [Act.put, List.getElem_toArray, List.getElem_cons_zero, List.getElem_cons_succ, List.setIfInBounds_toArray, List.set_cons_zero, List.set_cons_succ]
                        refine wpAnyH_ready (rs := [26]) (by kernel_rfl) (by simp) ?_
                        refine AllReadyH.cons (o_at HG 26 rfl) ?_ (AllReadyH.nil)
                        · intro K' hK
                          refine step_app_bytes (by kernel_rfl) _ _ 22 rfl wc.heap.size 5 Try.underlying22 info5 v9 [sumN num (rl + 1) b, putN (bl + 1) 4].flatten rfl O9.out (some ⟨k80, 0, none⟩) 1 [165] rfl (fun e => by cases e) RK.out (by simp [sumN_length, putN_length]) HBX5.out.size ?_
                          intro v10 X6 ho hg hv
                          have hb := bel_grown HBX5.out hg (fun k e => O9.out.base_ k e)
                          have hfl : [sumN num (rl + 1) b, putN (bl + 1) 4].flatten ++ [165] = leadB num (rl + 1) b := by unfold leadB; rw [HBL.out]; simp
                          rw [hfl] at ho
                          obtain ⟨AL, cL, eL, -, rbL⟩ := ho.reads
                          have hbsL := ho.base_
                          rw [leadB_len] at eL
                          subst eL
                          have RL9 := Lib.hid rbL
                          have HFR : Hid (∀ ad, AL = some ad → wc.heap.size ≤ ad.block) := Lib.hid (fun ad e => hbsL ad.block (by rw [e]; rfl))
                          have HBX6 := Lib.hid hb
                          obtain ⟨s1, s2, s4⟩ := HCJ.out X6 HBX6.out
                          refine hK.out _ _ ⟨s1, s2, s4⟩ (fun _ => ?_)
                          clear s1 s2 s4 hb ho hg hv hfl rbL hbsL
                          try simp only [Act.put, List.getElem_toArray, List.getElem_cons_zero, List.getElem_cons_succ, List.setIfInBounds_toArray, List.set_cons_zero, List.set_cons_succ]
                          refine wpAnyH_ready (rs := [27]) (by kernel_rfl) (by simp) ?_
                          refine AllReadyH.cons (o_at HG 27 rfl) ?_ (AllReadyH.nil)
                          · intro K' hK
                            rw [if_pos (by kernel_rfl)]
                            go_simp
                            (with_reducible refine (HHD.out X6 AL cL HBX6.out RL9.out HFR.out).mono ?_)
                            rintro e X7 ⟨x3, d3, col4, rfl, p2, dd2, aa2⟩
                            obtain ⟨g1, g2, g3⟩ := HGR.out X6 HBX6.out
                            have P5 := Lib.hid (g1.trans (p2.mono HTO.out))
                            have D5 := Lib.hid dd2
                            have J5 := Lib.hid (g2.path p2 HON.out)
                            have R5 := Lib.hid (RC.path g3 p2 HOC.out)
                            have A5 := Lib.hid aa2
                            obtain ⟨vg, jg⟩ := g2
                            have hkb := (p2.kept (k := gj) jg.lt (fun i hi => by rw [jg.hcol]; exact (HON.out i hi).2)).1
                            obtain ⟨q1, q2, q4⟩ := HCJ.out X6 HBX6.out
                            have kk1 := (World.cell?_of_block (a := ⟨gj, 1, none⟩) hkb).trans q1
                            have kk2 := (World.cell?_of_block (a := ⟨gj, 2, none⟩) hkb).trans q2
                            have kk4 := (World.cell?_of_block (a := ⟨gj, 4, none⟩) hkb).trans q4
                            refine hK.out _ _ ⟨kk1, kk2, kk4⟩ (fun _ => ?_)
                            clear kk1 kk2 kk4 q1 q2 q4 hkb jg g1 g3 p2 dd2 aa2
                            try simp only [Act.put, List.getElem_toArray, List.getElem_cons_zero, List.getElem_cons_succ, List.setIfInBounds_toArray, List.set_cons_zero, List.set_cons_succ]
                            refine wpAnyH_take (i := 28) (v := ?_) (o_at HG 28 rfl) Gns (by kernel_rfl) (by kernel_rfl) (fun _ _ _ h => h) (Or.inl ⟨(by kernel_rfl), ?_⟩) (by first | trivial | assumption) ?_
                            rotate_left
                            · (intro w hSw; (try dsimp only at hSw); go_simp; try with_reducible rfl)
                            try simp only [Act.put, List.getElem_toArray, List.getElem_cons_zero, List.getElem_cons_succ, List.setIfInBounds_toArray, List.set_cons_zero, List.set_cons_succ]
                            refine wpAnyH_done (by kernel_rfl) ?_ _
                            go_wp2
                            go_meet
                            exact ⟨x3, d3, col4, rfl, P5, D5, J5, R5, Lib.hid (by have := A5.out; rw [HRL0.out] at this; exact this)⟩
            case rest =>
              obtain ⟨x3, d3, col4, rfl, P5, D5, J5, R5, A5⟩ := hcut
              clear P4 D4 J4 R4
              by_cases hx3 : x3 = 0
              · subst hx3
                go_upto_region 17 with fail
                obtain ⟨vr1, jv1⟩ := J5.out
                obtain ⟨AR, cR, rfl, -, -, -⟩ := own_FL jv1.own
                obtain ⟨jr, hjr⟩ : ∃ r, r = j.recs := ⟨_, rfl⟩
                obtain ⟨rl, hrl⟩ : ∃ n, n = j.recs.length := ⟨_, rfl⟩
                have HJR := Lib.hid hjr
                rw [← hrl] at jv1 hrn
                obtain ⟨wb, hwb⟩ : ∃ W, W = wc := ⟨_, rfl⟩
                rw [← hwb] at jv1 P5 D5 R5 ⊢
                have HJV := Lib.hid jv1
                have c4 : wb.cell? ⟨gj, 4, none⟩ = some (.slice AR rl cR) := by rw [cell_of_row _ _ 4 _ _ _ jv1.obj]; rfl
                have HCJ2 : Hid (∀ X, Below wb.heap.size wb X → X.cell? ⟨gj, 4, none⟩ = some (.slice AR rl cR)) := Lib.hid (fun X hX => (hX.cell (World.block_lt_of_cell? _ _ c4)).trans c4)
                have hown := jv1.own
                have hfin := j_fin jv1 bl b HBL.out.symm
                rw [← hrl, ← hjr] at hown hfin
                have HOWN := Lib.hid hown
                have HFIN := Lib.hid hfin
                have HCLN : Hid (∀ X, Below wb.heap.size wb X → Calls Try.prog 44 #[.slice A bl c] X (CloneP b X)) := Lib.hid (fun X hX => clone_at A c bl b X HBL.out (R5.out.read.below hX) HSV.out (by rw [← HBL.out]; omega))
                clear hjr hrl hwb jv1 c4 hown hfin
                have HY0 := Lib.hid (bel_drew (Below.refl wb.heap.size wb))
                refine region_const (G := G17d) (S := fun _ => True) (n := 12) (by kernel_rfl) (by kernel_rfl) rfl trivial (fun HG _ => ?_)
                have Gns := Gns17d
                generalize wb.drew = Y0 at *
                simp only [Array.replicate_succ, Array.replicate_zero, List.push_toArray, List.nil_append, List.cons_append]
                refine wpAnyH_take (i := 0) (v := ?_) (o_at HG 0 rfl) Gns (by kernel_rfl) (by kernel_rfl) (fun _ _ _ h => h) (Or.inl ⟨(by kernel_rfl), ?_⟩) (by first | trivial | assumption) ?_
                rotate_left
                · (intro w hSw; (try dsimp only at hSw); go_simp; try with_reducible rfl)
                try simp only [Act.put, List.getElem_toArray, List.getElem_cons_zero, List.getElem_cons_succ, List.setIfInBounds_toArray, List.set_cons_zero, List.set_cons_succ]
                refine wpAnyH_take (i := 1) (v := ?_) (o_at HG 1 rfl) Gns (by kernel_rfl) (by kernel_rfl) (fun _ _ _ h => h) (Or.inl ⟨(by kernel_rfl), ?_⟩) (by first | trivial | assumption) ?_
                rotate_left
                · (intro w hSw; (try dsimp only at hSw); go_simp; try with_reducible rfl)
                try simp only [Act.put, List.getElem_toArray, List.getElem_cons_zero, List.getElem_cons_succ, List.setIfInBounds_toArray, List.set_cons_zero, List.set_cons_succ]
                refine wpAnyH_take (i := 2) (v := ?_) (o_at HG 2 rfl) Gns (by kernel_rfl) (by kernel_rfl) (fun _ _ _ h => h) (Or.inl ⟨(by kernel_rfl), ?_⟩) (by first | trivial | assumption) ?_
                rotate_left
                · (intro w hSw; (try dsimp only at hSw); go_simp; try with_reducible rfl)
                try simp only [Act.put, List.getElem_toArray, List.getElem_cons_zero, List.getElem_cons_succ, List.setIfInBounds_toArray, List.set_cons_zero, List.set_cons_succ]
                refine wpAnyH_take (i := 3) (v := ?_) (o_at HG 3 rfl) Gns (by kernel_rfl) (by kernel_rfl) (fun _ _ _ h => h) (Or.inl ⟨(by kernel_rfl), ?_⟩) (by first | trivial | assumption) ?_
                rotate_left
                · (intro w hSw; (try dsimp only at hSw); go_simp; try with_reducible rfl)
                try simp only [Act.put, List.getElem_toArray, List.getElem_cons_zero, List.getElem_cons_succ, List.setIfInBounds_toArray, List.set_cons_zero, List.set_cons_succ]
                refine wpAnyH_take (i := 5) (v := ?_) (o_at HG 5 rfl) Gns (by kernel_rfl) (by kernel_rfl) (fun _ _ _ h => h) (Or.inl ⟨(by kernel_rfl), ?_⟩) (by first | trivial | assumption) ?_
                rotate_left
                · (intro w hSw; (try dsimp only at hSw); go_simp; try with_reducible rfl)
                try simp only [Act.put, List.getElem_toArray, List.getElem_cons_zero, List.getElem_cons_succ, List.setIfInBounds_toArray, List.set_cons_zero, List.set_cons_succ]
                refine wpAnyH_ready (rs := [4, 6]) (by kernel_rfl) (by simp) ?_
                refine AllReadyH.cons (o_at HG 4 rfl) ?_ (AllReadyH.cons (o_at HG 6 rfl) ?_ (AllReadyH.nil))
                · intro K' hK
                  have hc4 : Y0.cell? ⟨gj, 4, none⟩ = some (.slice AR rl cR) := HCJ2.out Y0 HY0.out
                  rw [if_pos (by kernel_rfl)]
                  go_simp
                  clear hc4
                  refine hK.out _ _ trivial (fun _ => ?_)
                  try simp only [Act.put, List.getElem_toArray, List.getElem_cons_zero, List.getElem_cons_succ, List.setIfInBounds_toArray, List.set_cons_zero, List.set_cons_succ]
                  refine wpAnyH_ready (rs := [6]) (by kernel_rfl) (by simp) ?_
                  refine AllReadyH.cons (o_at HG 6 rfl) ?_ (AllReadyH.nil)
                  · intro K' hK
                    rw [if_pos (by kernel_rfl)]
                    go_simp
                    (with_reducible refine (HCLN.out Y0 HY0.out).mono ?_)
                    rintro e Y1 ⟨vb, rfl, hob, hbel⟩
                    obtain ⟨Ab, cb, rfl, sb, rbb⟩ := hob.reads
                    have hbs := hob.base_
                    rw [← HBL.out] at sb hbs ⊢
                    have HY1 := Lib.hid (bel_then HY0.out hbel)
                    have SB := Lib.hid sb
                    have RBB := Lib.hid rbb
                    have HAP : Hid (∀ ad, Ab = some ad → wb.heap.size ≤ ad.block) := Lib.hid (fun ad e => Nat.le_trans HY0.out.size (hbs ad.block (by rw [e]; rfl)))
                    clear hob hbel sb rbb hbs
                    refine hK.out _ _ trivial (fun _ => ?_)
                    try simp only [Act.put, List.getElem_toArray, List.getElem_cons_zero, List.getElem_cons_succ, List.setIfInBounds_toArray, List.set_cons_zero, List.set_cons_succ]
                    refine wpAnyH_ready (rs := [7]) (by kernel_rfl) (by simp) ?_
                    refine AllReadyH.cons (o_at HG 7 rfl) ?_ (AllReadyH.nil)
                    · intro K' hK
                      rw [if_pos (by kernel_rfl)]
                      go_simp
                      have HY2 := Lib.hid (bel_alloc HY1.out (.cells #[.slice Ab bl cb] 22))
                      have HN2 : Hid (∀ j u, [Value.slice Ab bl cb][j]? = some u → (Y1.alloc (.cells #[.slice Ab bl cb] 22)).cell? ((⟨Y1.heap.size, 0, none⟩ : Addr).add j) = some u) := Lib.hid (fun j u hu => cell_alloc _ _ _ _ _ rfl j u (by simpa using hu))
                      have RB2' := Lib.hid (RBB.out.alloc (.cells #[.slice Ab bl cb] 22))
                      generalize Y1.alloc (.cells #[.slice Ab bl cb] 22) = Y2 at *
                      generalize Y1.heap.size = k40 at *
                      refine hK.out _ _ trivial (fun _ => ?_)
                      try simp only [Act.put, List.getElem_toArray, List.getElem_cons_zero, List.getElem_cons_succ, List.setIfInBounds_toArray, List.set_cons_zero, List.set_cons_succ]
                      refine wpAnyH_ready (rs := [8]) (by kernel_rfl) (by simp) ?_
                      refine AllReadyH.cons (o_at HG 8 rfl) ?_ (AllReadyH.nil)
                      · intro K' hK
                        refine step_app (by kernel_rfl) _ _ 23 rfl 0 22 (.slice none 0 0) 1 24 Try.underlying23 info22 rfl (by decide) (.slice AR rl cR) rl (rowL jr) rfl ?_ (some ⟨k40, 0, none⟩) 1 1 [.slice Ab bl cb] rfl rfl (fun e => by cases e) (fun _ => ⟨_, rfl, HN2.out⟩) (by intro u hu; simp only [List.mem_cons, List.not_mem_nil, or_false] at hu; rcases hu with rfl; rfl) (by unfold maxLen; omega) (by omega) (Nat.zero_le _) ?_
                        · exact own_keep HOWN.out fun j hj => HY2.out.block j (HOWN.out.lt j hj).2
                        intro v3 Y3 ho hg hv
                        have hfin := HFIN.out Y2 Y3 v3 Ab cb HY2.out ho hg hv RB2'.out HAP.out SB.out
                        have hz4 : Y3.frozen? ⟨gj, 4, none⟩ = false := hfin.1
                        have hc4 : Y3.cell? ⟨gj, 4, none⟩ = some (.slice AR rl cR) := hfin.2.1
                        have HEND := Lib.hid hfin.2.2
                        clear ho hg hv hfin
                        refine hK.out _ _ trivial (fun _ => ?_)
                        try simp only [Act.put, List.getElem_toArray, List.getElem_cons_zero, List.getElem_cons_succ, List.setIfInBounds_toArray, List.set_cons_zero, List.set_cons_succ]
                        refine wpAnyH_take (i := 9) (v := ?_) (o_at HG 9 rfl) Gns (by kernel_rfl) (by kernel_rfl) (fun _ _ _ h => h) (Or.inl ⟨(by kernel_rfl), ?_⟩) (by first | trivial | assumption) ?_
                        rotate_left
                        · (intro w hSw; (try dsimp only at hSw); go_simp; try with_reducible rfl)
                        try simp only [Act.put, List.getElem_toArray, List.getElem_cons_zero, List.getElem_cons_succ, List.setIfInBounds_toArray, List.set_cons_zero, List.set_cons_succ]
                        refine wpAnyH_take (i := 10) (v := ?_) (o_at HG 10 rfl) Gns (by kernel_rfl) (by kernel_rfl) (fun _ _ _ h => h) (Or.inl ⟨(by kernel_rfl), ?_⟩) (by first | trivial | assumption) ?_
                        rotate_left
                        · (intro w hSw; (try dsimp only at hSw); go_simp; try with_reducible rfl)
                        try simp only [Act.put, List.getElem_toArray, List.getElem_cons_zero, List.getElem_cons_succ, List.setIfInBounds_toArray, List.set_cons_zero, List.set_cons_succ]
                        refine wpAnyH_ready (rs := [11]) (by kernel_rfl) (by simp) ?_
                        refine AllReadyH.cons (o_at HG 11 rfl) ?_ (AllReadyH.nil)
                        · intro K' hK
                          obtain ⟨Av, cv, hvv⟩ := HEND.out.1
                          subst hvv
                          rw [if_pos (by kernel_rfl)]
                          go_simp
                          clear hz4 hc4
                          refine hK.out _ _ trivial (fun _ => ?_)
                          try simp only [Act.put, List.getElem_toArray, List.getElem_cons_zero, List.getElem_cons_succ, List.setIfInBounds_toArray, List.set_cons_zero, List.set_cons_succ]
                          refine wpAnyH_done (by kernel_rfl) ?_ _
                          obtain ⟨-, c7', st7, jv7⟩ := HEND.out
                          have fz5 := frozen_of_row _ _ 5 _ _ jv7.obj
                          have cz5 : (Y3.setCell ⟨gj, 4, none⟩ (.slice Av (rl + 1) cv)).cell? ⟨gj, 5, none⟩ = some (.int .i64 (j.endp : Int)) := by rw [cell_of_row _ _ 5 _ _ _ jv7.obj]; rfl
                          have hset := row_set (j := 5) (.int .i64 ((P + 9 + bl : Nat) : Int)) jv7.obj
                          obtain ⟨st8, jv8⟩ := jv7.put (j' := { j with recs := jr ++ [⟨0, b, Ab, cb⟩], endp := P + 9 + bl }) (keeps_set (j := 5) (u := .int .i64 ((P + 9 + bl : Nat) : Int)) (Keeps.refl (fun k => k = gj) _) rfl) hset rfl jv7.sb
                          rw [show ((P + 9 + bl : Nat) : Int) = (P : Int) + 9 + (bl : Int) by omega] at st8 jv8
                          have P8 := Lib.hid (Path.step (J := Two id idj) (.inr rfl) (Path.step (J := Two id idj) (.inr rfl) P5.out st7) st8)
                          have D8 := Lib.hid ((D5.out.step st7 (fun e => hne e.symm) hidj).step st8 (fun e => hne e.symm) hidj)
                          have J8 := Lib.hid jv8
                          have HA : Hid (AppR d j b 0 d3 { j with recs := jr ++ [⟨0, b, Ab, cb⟩], endp := P + 9 + bl }) := Lib.hid (by
                            rw [HJR.out, HPP.out, HBL.out]
                            exact .ok HROK.out (by rw [← HHF.out, ← HPP.out]; exact A3.out) (by rw [← HHF.out, ← HPP.out]; exact A4.out) (by rw [← HHF.out, ← HPP.out, ← HNM.out]; exact A5.out) rfl)
                          clear hset st8 jv8 st7 jv7
                          go_wp2
                          go_ret
                          exact ⟨0, d3, _, c7', rfl, P8.out, D8.out, ⟨_, J8.out⟩, HA.out⟩
                · intro K' hK
                  rw [if_pos (by kernel_rfl)]
                  go_simp
                  (with_reducible refine (HCLN.out Y0 HY0.out).mono ?_)
                  rintro e Y1 ⟨vb, rfl, hob, hbel⟩
                  obtain ⟨Ab, cb, rfl, sb, rbb⟩ := hob.reads
                  have hbs := hob.base_
                  rw [← HBL.out] at sb hbs ⊢
                  have HY1 := Lib.hid (bel_then HY0.out hbel)
                  have SB := Lib.hid sb
                  have RBB := Lib.hid rbb
                  have HAP : Hid (∀ ad, Ab = some ad → wb.heap.size ≤ ad.block) := Lib.hid (fun ad e => Nat.le_trans HY0.out.size (hbs ad.block (by rw [e]; rfl)))
                  clear hob hbel sb rbb hbs
                  refine hK.out _ _ trivial (fun _ => ?_)
                  try simp only [Act.put, List.getElem_toArray, List.getElem_cons_zero, List.getElem_cons_succ, List.setIfInBounds_toArray, List.set_cons_zero, List.set_cons_succ]
                  refine wpAnyH_ready (rs := [4, 7]) (by kernel_rfl) (by simp) ?_
                  refine AllReadyH.cons (o_at HG 4 rfl) ?_ (AllReadyH.cons (o_at HG 7 rfl) ?_ (AllReadyH.nil))
                  · intro K' hK
                    have hc4 : Y1.cell? ⟨gj, 4, none⟩ = some (.slice AR rl cR) := HCJ2.out Y1 HY1.out
                    rw [if_pos (by kernel_rfl)]
                    go_simp
                    clear hc4
                    refine hK.out _ _ trivial (fun _ => ?_)
                    try simp only [Act.put, List.getElem_toArray, List.getElem_cons_zero, List.getElem_cons_succ, List.setIfInBounds_toArray, List.set_cons_zero, List.set_cons_succ]
                    refine wpAnyH_ready (rs := [7]) (by kernel_rfl) (by simp) ?_
                    refine AllReadyH.cons (o_at HG 7 rfl) ?_ (AllReadyH.nil)
                    · intro K' hK
                      rw [if_pos (by kernel_rfl)]
                      go_simp
                      have HY2 := Lib.hid (bel_alloc HY1.out (.cells #[.slice Ab bl cb] 22))
                      have HN2 : Hid (∀ j u, [Value.slice Ab bl cb][j]? = some u → (Y1.alloc (.cells #[.slice Ab bl cb] 22)).cell? ((⟨Y1.heap.size, 0, none⟩ : Addr).add j) = some u) := Lib.hid (fun j u hu => cell_alloc _ _ _ _ _ rfl j u (by simpa using hu))
                      have RB2' := Lib.hid (RBB.out.alloc (.cells #[.slice Ab bl cb] 22))
                      generalize Y1.alloc (.cells #[.slice Ab bl cb] 22) = Y2 at *
                      generalize Y1.heap.size = k40 at *
                      refine hK.out _ _ trivial (fun _ => ?_)
                      try simp only [Act.put, List.getElem_toArray, List.getElem_cons_zero, List.getElem_cons_succ, List.setIfInBounds_toArray, List.set_cons_zero, List.set_cons_succ]
                      refine wpAnyH_ready (rs := [8]) (by kernel_rfl) (by simp) ?_
                      refine AllReadyH.cons (o_at HG 8 rfl) ?_ (AllReadyH.nil)
                      · intro K' hK
                        refine step_app (by kernel_rfl) _ _ 23 rfl 0 22 (.slice none 0 0) 1 24 Try.underlying23 info22 rfl (by decide) (.slice AR rl cR) rl (rowL jr) rfl ?_ (some ⟨k40, 0, none⟩) 1 1 [.slice Ab bl cb] rfl rfl (fun e => by cases e) (fun _ => ⟨_, rfl, HN2.out⟩) (by intro u hu; simp only [List.mem_cons, List.not_mem_nil, or_false] at hu; rcases hu with rfl; rfl) (by unfold maxLen; omega) (by omega) (Nat.zero_le _) ?_
                        · exact own_keep HOWN.out fun j hj => HY2.out.block j (HOWN.out.lt j hj).2
                        intro v3 Y3 ho hg hv
                        have hfin := HFIN.out Y2 Y3 v3 Ab cb HY2.out ho hg hv RB2'.out HAP.out SB.out
                        have hz4 : Y3.frozen? ⟨gj, 4, none⟩ = false := hfin.1
                        have hc4 : Y3.cell? ⟨gj, 4, none⟩ = some (.slice AR rl cR) := hfin.2.1
                        have HEND := Lib.hid hfin.2.2
                        clear ho hg hv hfin
                        refine hK.out _ _ trivial (fun _ => ?_)
                        try simp only [Act.put, List.getElem_toArray, List.getElem_cons_zero, List.getElem_cons_succ, List.setIfInBounds_toArray, List.set_cons_zero, List.set_cons_succ]
                        refine wpAnyH_take (i := 9) (v := ?_) (o_at HG 9 rfl) Gns (by kernel_rfl) (by kernel_rfl) (fun _ _ _ h => h) (Or.inl ⟨(by kernel_rfl), ?_⟩) (by first | trivial | assumption) ?_
                        rotate_left
                        · (intro w hSw; (try dsimp only at hSw); go_simp; try with_reducible rfl)
                        try simp only [Act.put, List.getElem_toArray, List.getElem_cons_zero, List.getElem_cons_succ, List.setIfInBounds_toArray, List.set_cons_zero, List.set_cons_succ]
                        refine wpAnyH_take (i := 10) (v := ?_) (o_at HG 10 rfl) Gns (by kernel_rfl) (by kernel_rfl) (fun _ _ _ h => h) (Or.inl ⟨(by kernel_rfl), ?_⟩) (by first | trivial | assumption) ?_
                        rotate_left
                        · (intro w hSw; (try dsimp only at hSw); go_simp; try with_reducible rfl)
                        try simp only [Act.put, List.getElem_toArray, List.getElem_cons_zero, List.getElem_cons_succ, List.setIfInBounds_toArray, List.set_cons_zero, List.set_cons_succ]
                        refine wpAnyH_ready (rs := [11]) (by kernel_rfl) (by simp) ?_
                        refine AllReadyH.cons (o_at HG 11 rfl) ?_ (AllReadyH.nil)
                        · intro K' hK
                          obtain ⟨Av, cv, hvv⟩ := HEND.out.1
                          subst hvv
                          rw [if_pos (by kernel_rfl)]
                          go_simp
                          clear hz4 hc4
                          refine hK.out _ _ trivial (fun _ => ?_)
                          try simp only [Act.put, List.getElem_toArray, List.getElem_cons_zero, List.getElem_cons_succ, List.setIfInBounds_toArray, List.set_cons_zero, List.set_cons_succ]
                          refine wpAnyH_done (by kernel_rfl) ?_ _
                          obtain ⟨-, c7', st7, jv7⟩ := HEND.out
                          have fz5 := frozen_of_row _ _ 5 _ _ jv7.obj
                          have cz5 : (Y3.setCell ⟨gj, 4, none⟩ (.slice Av (rl + 1) cv)).cell? ⟨gj, 5, none⟩ = some (.int .i64 (j.endp : Int)) := by rw [cell_of_row _ _ 5 _ _ _ jv7.obj]; rfl
                          have hset := row_set (j := 5) (.int .i64 ((P + 9 + bl : Nat) : Int)) jv7.obj
                          obtain ⟨st8, jv8⟩ := jv7.put (j' := { j with recs := jr ++ [⟨0, b, Ab, cb⟩], endp := P + 9 + bl }) (keeps_set (j := 5) (u := .int .i64 ((P + 9 + bl : Nat) : Int)) (Keeps.refl (fun k => k = gj) _) rfl) hset rfl jv7.sb
                          rw [show ((P + 9 + bl : Nat) : Int) = (P : Int) + 9 + (bl : Int) by omega] at st8 jv8
                          have P8 := Lib.hid (Path.step (J := Two id idj) (.inr rfl) (Path.step (J := Two id idj) (.inr rfl) P5.out st7) st8)
                          have D8 := Lib.hid ((D5.out.step st7 (fun e => hne e.symm) hidj).step st8 (fun e => hne e.symm) hidj)
                          have J8 := Lib.hid jv8
                          have HA : Hid (AppR d j b 0 d3 { j with recs := jr ++ [⟨0, b, Ab, cb⟩], endp := P + 9 + bl }) := Lib.hid (by
                            rw [HJR.out, HPP.out, HBL.out]
                            exact .ok HROK.out (by rw [← HHF.out, ← HPP.out]; exact A3.out) (by rw [← HHF.out, ← HPP.out]; exact A4.out) (by rw [← HHF.out, ← HPP.out, ← HNM.out]; exact A5.out) rfl)
                          clear hset st8 jv8 st7 jv7
                          go_wp2
                          go_ret
                          exact ⟨0, d3, _, c7', rfl, P8.out, D8.out, ⟨_, J8.out⟩, HA.out⟩
                  · intro K' hK
                    rw [if_pos (by kernel_rfl)]
                    go_simp
                    have HY2 := Lib.hid (bel_alloc HY1.out (.cells #[.slice Ab bl cb] 22))
                    have HN2 : Hid (∀ j u, [Value.slice Ab bl cb][j]? = some u → (Y1.alloc (.cells #[.slice Ab bl cb] 22)).cell? ((⟨Y1.heap.size, 0, none⟩ : Addr).add j) = some u) := Lib.hid (fun j u hu => cell_alloc _ _ _ _ _ rfl j u (by simpa using hu))
                    have RB2' := Lib.hid (RBB.out.alloc (.cells #[.slice Ab bl cb] 22))
                    generalize Y1.alloc (.cells #[.slice Ab bl cb] 22) = Y2 at *
                    generalize Y1.heap.size = k40 at *
                    refine hK.out _ _ trivial (fun _ => ?_)
                    try simp only [Act.put, List.getElem_toArray, List.getElem_cons_zero, List.getElem_cons_succ, List.setIfInBounds_toArray, List.set_cons_zero, List.set_cons_succ]
                    refine wpAnyH_ready (rs := [4]) (by kernel_rfl) (by simp) ?_
                    refine AllReadyH.cons (o_at HG 4 rfl) ?_ (AllReadyH.nil)
                    · intro K' hK
                      have hc4 : Y2.cell? ⟨gj, 4, none⟩ = some (.slice AR rl cR) := HCJ2.out Y2 HY2.out
                      rw [if_pos (by kernel_rfl)]
                      go_simp
                      clear hc4
                      refine hK.out _ _ trivial (fun _ => ?_)
                      try simp only [Act.put, List.getElem_toArray, List.getElem_cons_zero, List.getElem_cons_succ, List.setIfInBounds_toArray, List.set_cons_zero, List.set_cons_succ]
                      refine wpAnyH_ready (rs := [8]) (by kernel_rfl) (by simp) ?_
                      refine AllReadyH.cons (o_at HG 8 rfl) ?_ (AllReadyH.nil)
                      · intro K' hK
                        refine step_app (by kernel_rfl) _ _ 23 rfl 0 22 (.slice none 0 0) 1 24 Try.underlying23 info22 rfl (by decide) (.slice AR rl cR) rl (rowL jr) rfl ?_ (some ⟨k40, 0, none⟩) 1 1 [.slice Ab bl cb] rfl rfl (fun e => by cases e) (fun _ => ⟨_, rfl, HN2.out⟩) (by intro u hu; simp only [List.mem_cons, List.not_mem_nil, or_false] at hu; rcases hu with rfl; rfl) (by unfold maxLen; omega) (by omega) (Nat.zero_le _) ?_
                        · exact own_keep HOWN.out fun j hj => HY2.out.block j (HOWN.out.lt j hj).2
                        intro v3 Y3 ho hg hv
                        have hfin := HFIN.out Y2 Y3 v3 Ab cb HY2.out ho hg hv RB2'.out HAP.out SB.out
                        have hz4 : Y3.frozen? ⟨gj, 4, none⟩ = false := hfin.1
                        have hc4 : Y3.cell? ⟨gj, 4, none⟩ = some (.slice AR rl cR) := hfin.2.1
                        have HEND := Lib.hid hfin.2.2
                        clear ho hg hv hfin
                        refine hK.out _ _ trivial (fun _ => ?_)
                        try simp only [Act.put, List.getElem_toArray, List.getElem_cons_zero, List.getElem_cons_succ, List.setIfInBounds_toArray, List.set_cons_zero, List.set_cons_succ]
                        refine wpAnyH_take (i := 9) (v := ?_) (o_at HG 9 rfl) Gns (by kernel_rfl) (by kernel_rfl) (fun _ _ _ h => h) (Or.inl ⟨(by kernel_rfl), ?_⟩) (by first | trivial | assumption) ?_
                        rotate_left
                        · (intro w hSw; (try dsimp only at hSw); go_simp; try with_reducible rfl)
                        try simp only [Act.put, List.getElem_toArray, List.getElem_cons_zero, List.getElem_cons_succ, List.setIfInBounds_toArray, List.set_cons_zero, List.set_cons_succ]
                        refine wpAnyH_take (i := 10) (v := ?_) (o_at HG 10 rfl) Gns (by kernel_rfl) (by kernel_rfl) (fun _ _ _ h => h) (Or.inl ⟨(by kernel_rfl), ?_⟩) (by first | trivial | assumption) ?_
                        rotate_left
                        · (intro w hSw; (try dsimp only at hSw); go_simp; try with_reducible rfl)
                        try simp only [Act.put, List.getElem_toArray, List.getElem_cons_zero, List.getElem_cons_succ, List.setIfInBounds_toArray, List.set_cons_zero, List.set_cons_succ]
                        refine wpAnyH_ready (rs := [11]) (by kernel_rfl) (by simp) ?_
                        refine AllReadyH.cons (o_at HG 11 rfl) ?_ (AllReadyH.nil)
                        · intro K' hK
                          obtain ⟨Av, cv, hvv⟩ := HEND.out.1
                          subst hvv
                          rw [if_pos (by kernel_rfl)]
                          go_simp
                          clear hz4 hc4
                          refine hK.out _ _ trivial (fun _ => ?_)
                          try simp only [Act.put, List.getElem_toArray, List.getElem_cons_zero, List.getElem_cons_succ, List.setIfInBounds_toArray, List.set_cons_zero, List.set_cons_succ]
                          refine wpAnyH_done (by kernel_rfl) ?_ _
                          obtain ⟨-, c7', st7, jv7⟩ := HEND.out
                          have fz5 := frozen_of_row _ _ 5 _ _ jv7.obj
                          have cz5 : (Y3.setCell ⟨gj, 4, none⟩ (.slice Av (rl + 1) cv)).cell? ⟨gj, 5, none⟩ = some (.int .i64 (j.endp : Int)) := by rw [cell_of_row _ _ 5 _ _ _ jv7.obj]; rfl
                          have hset := row_set (j := 5) (.int .i64 ((P + 9 + bl : Nat) : Int)) jv7.obj
                          obtain ⟨st8, jv8⟩ := jv7.put (j' := { j with recs := jr ++ [⟨0, b, Ab, cb⟩], endp := P + 9 + bl }) (keeps_set (j := 5) (u := .int .i64 ((P + 9 + bl : Nat) : Int)) (Keeps.refl (fun k => k = gj) _) rfl) hset rfl jv7.sb
                          rw [show ((P + 9 + bl : Nat) : Int) = (P : Int) + 9 + (bl : Int) by omega] at st8 jv8
                          have P8 := Lib.hid (Path.step (J := Two id idj) (.inr rfl) (Path.step (J := Two id idj) (.inr rfl) P5.out st7) st8)
                          have D8 := Lib.hid ((D5.out.step st7 (fun e => hne e.symm) hidj).step st8 (fun e => hne e.symm) hidj)
                          have J8 := Lib.hid jv8
                          have HA : Hid (AppR d j b 0 d3 { j with recs := jr ++ [⟨0, b, Ab, cb⟩], endp := P + 9 + bl }) := Lib.hid (by
                            rw [HJR.out, HPP.out, HBL.out]
                            exact .ok HROK.out (by rw [← HHF.out, ← HPP.out]; exact A3.out) (by rw [← HHF.out, ← HPP.out]; exact A4.out) (by rw [← HHF.out, ← HPP.out, ← HNM.out]; exact A5.out) rfl)
                          clear hset st8 jv8 st7 jv7
                          go_wp2
                          go_ret
                          exact ⟨0, d3, _, c7', rfl, P8.out, D8.out, ⟨_, J8.out⟩, HA.out⟩
              · have hx3b : (x3 != 0) = true := by simp [hx3]
                have HX3 := Lib.hid hx3
                obtain ⟨vr3, jv3⟩ := J5.out
                have HJV3 := Lib.hid jv3
                clear hx3 jv3
                go_wp2_with fail
                refine (fails_any gj gd idj vr3 j x3 wc col4 HJV3.out).mono ?_
                rintro e w4 ⟨rfl, st4, jv4⟩
                have P6 := Lib.hid (Path.step (J := Two id idj) (.inr rfl) P5.out st4)
                have D6 := Lib.hid (D5.out.step st4 (fun e => hne e.symm) hidj)
                have J6 := Lib.hid jv4
                have HA : Hid (AppR d j b x3 d3 (failJ j x3)) := Lib.hid (.f3 HROK.out (by rw [← HHF.out, ← HPP.out]; exact A3.out) (by rw [← HHF.out, ← HPP.out]; exact A4.out) (by rw [← HHF.out, ← HPP.out, ← HNM.out]; exact A5.out) HX3.out)
                clear st4 jv4
                go_wp2
                go_ret
                exact ⟨x3, d3, _, col4, rfl, P6.out, D6.out, ⟨_, J6.out⟩, HA.out⟩
          · have hx2b : (x2 != 0) = true := by simp [hx2]
            have HX2 := Lib.hid hx2
            obtain ⟨vr3, jv3⟩ := J4.out
            have HJV3 := Lib.hid jv3
            clear hx2 jv3
            go_wp2_with fail
            refine (fails_any gj gd idj vr3 j x2 wc col3 HJV3.out).mono ?_
            rintro e w4 ⟨rfl, st4, jv4⟩
            have P6 := Lib.hid (Path.step (J := Two id idj) (.inr rfl) P4.out st4)
            have D6 := Lib.hid (D4.out.step st4 (fun e => hne e.symm) hidj)
            have J6 := Lib.hid jv4
            have HA : Hid (AppR d j b x2 d2 (failJ j x2)) := Lib.hid (.f2 HROK.out (by rw [← HHF.out, ← HPP.out]; exact A3.out) (by rw [← HHF.out, ← HPP.out]; exact A4.out) HX2.out)
            clear st4 jv4
            go_wp2
            go_ret
            exact ⟨x2, d2, _, col3, rfl, P6.out, D6.out, ⟨_, J6.out⟩, HA.out⟩
      · have hx1b : (x1 != 0) = true := by simp [hx1]
        have HX1 := Lib.hid hx1
        obtain ⟨vr3, jv3⟩ := J3.out
        have HJV3 := Lib.hid jv3
        clear hx1 jv3
        go_wp2_with fail
        refine (fails_any gj gd idj vr3 j x1 wc col2 HJV3.out).mono ?_
        rintro e w4 ⟨rfl, st4, jv4⟩
        have P4 := Lib.hid (Path.step (J := Two id idj) (.inr rfl) P3.out st4)
        have D4 := Lib.hid (D3.out.step st4 (fun e => hne e.symm) hidj)
        have J4 := Lib.hid jv4
        have HA : Hid (AppR d j b x1 d1 (failJ j x1)) := Lib.hid (.f1 HROK.out (by rw [← HHF.out, ← HPP.out]; exact A3.out) HX1.out)
        clear st4 jv4
        go_wp2
        go_ret
        exact ⟨x1, d1, _, col2, rfl, P4.out, D4.out, ⟨_, J4.out⟩, HA.out⟩
end Go.Proofs.Ytdldclakkplliaa
