/- The walk of reads: records, till one is none. Conditions: none. -/
import Derived.Test.YtdldclakkplliaaJHeads
namespace Go.Proofs.Ytdldclakkplliaa
set_option linter.unusedVariables false
set_option linter.unusedSimpArgs false
open Go.RowKit

noncomputable def G45a : Array Oper := regionOf Try.f45 6
theorem Gns45a : Region.noSelect G45a = true := by kernel_rfl
noncomputable def G45b : Array Oper := regionOf Try.f45 7
theorem Gns45b : Region.noSelect G45b = true := by kernel_rfl

def recLen (H : List UInt8) (e : Nat) : Nat := getN ((H.drop (placeN e + 4)).take 4)
/-- The record that stands behind e, if there is one. -/
def recAt (H : List UInt8) (number k e : Nat) : Option (List UInt8) :=
  if H.length < placeN e + 9 then none else if H.getD (placeN e + 8) 0 ≠ 165 then none
  else if recLen H e = 0 ∨ 60000 < recLen H e - 1 ∨ H.length - (placeN e + 9) < recLen H e - 1 then none
  else if (H.drop (placeN e)).take 4 ≠ sumN number k ((H.drop (placeN e + 9)).take (recLen H e - 1)) then none
  else some ((H.drop (placeN e + 9)).take (recLen H e - 1))
/-- Records that stand one behind the other. -/
inductive Pre (H : List UInt8) (number k e : Nat) : List (List UInt8) → Nat → Prop
  | nil : Pre H number k e [] e
  | snoc {rs : List (List UInt8)} {e1 : Nat} {b : List UInt8} : Pre H number k e rs e1 → recAt H number (k + rs.length) e1 = some b → Pre H number k e (rs ++ [b]) (placeN e1 + 9 + b.length)

theorem JV.put {w w' : World} {col : Nat → Nat} {id gj gd : Nat} {vr : Value} {j j' : JK} (h : JV w col id gj gd vr j) (hk : Keeps (fun k => k = gj) w w') (hg : w'.heap[gj]? = some (.cells (jcells j' gd vr) 81 (0, 0))) (e1 : j'.recs = j.recs) (e2 : Sl w col j'.base) : Step id w col w' col ∧ JV w' col id gj gd vr j' := by
  have st : Step id w col w' col := ⟨hk.mono fun k _ e => e ▸ h.hcol, fun _ _ => rfl⟩
  refine ⟨st, ⟨h.hcol, h.nz, hg, ?_, h.blk, e2.step st h.nz, fun q hq => ?_⟩⟩
  · rw [e1]; exact own_keep h.own fun k hk2 => hk.block k (h.own.lt k hk2).2 (h.blk k hk2).1
  · rw [e1] at hq; exact (h.sr q hq).step st h.nz
theorem j_add {w Y : World} {col : Nat → Nat} {id gj gd : Nat} {vr v1 : Value} {j : JK} {s : Wr} (h : JV w col id gj gd vr j) (hk : Keeps (fun k => k = gj ∨ vr.ownBlock = some k) w Y) (hg : Y.heap[gj]? = some (.cells (jcells j gd v1) 81 (0, 0)))
    (ho : Y.ownsRow 0 22 1 v1 (j.recs.length + 1) (rowL (j.recs ++ [s]))) (hv1 : v1.ownBlock = vr.ownBlock ∨ ∃ k, v1.ownBlock = some k ∧ w.heap.size ≤ k) (hs : SV s.A s.b.length s.c) (hrb : RB Y s.A s.b)
    (hap : ∀ ad, s.A = some ad → w.heap.size ≤ ad.block ∧ v1.ownBlock ≠ some ad.block) : ∃ col', Step id w col Y col' ∧ JV Y col' id gj gd v1 { j with recs := j.recs ++ [s] } := by
  have hgl := h.lt
  have st : Step id w col Y (paint w col (fun k => if v1.ownBlock = some k then id else 0)) := Step.mk' (hk.mono fun k _ e => e.elim (fun e => e ▸ h.hcol) (fun e => (h.blk k e).2))
  refine ⟨_, st, ⟨(paint_old hgl).trans h.hcol, h.nz, hg, ?_, fun k hk2 => ?_, h.sb.step st h.nz, fun q hq => ?_⟩⟩
  · rw [List.length_append]; exact ho
  · rcases hv1 with h1 | ⟨k', h1, hk'⟩
    · have h2 := h1.symm.trans hk2
      have h3 := h.blk k h2
      exact ⟨h3.1, (paint_old (h.own.lt k h2).2).trans h3.2⟩
    · have : k' = k := by rw [h1] at hk2; exact Option.some.inj hk2
      subst this
      exact ⟨by omega, by rw [paint_new hk', if_pos h1]⟩
  · rcases List.mem_append.1 hq with hq | hq
    · exact (h.sr q hq).step st h.nz
    · rw [List.mem_singleton] at hq
      subst hq
      exact ⟨hs, ⟨hrb, fun hp ad e => by rw [paint_new (hap ad e).1, if_neg (hap ad e).2]⟩⟩
theorem j_fin {w : World} {col : Nat → Nat} {id gj gd : Nat} {vr : Value} {j : JK} (h : JV w col id gj gd vr j) (nn : Nat) (b : List UInt8) (hb : b.length = nn) :
    ∀ (X Y : World) (v1 : Value) (Ab : Option Addr) (cb : Nat), Below w.heap.size w X → Y.ownsRow 0 22 1 v1 (j.recs.length + 1) (rowL j.recs ++ [.slice Ab nn cb]) → X.grownBy Y vr.ownBlock → (v1.ownBlock = vr.ownBlock ∨ v1.ownBlock = some X.heap.size) → RB X Ab b →
      (∀ ad, Ab = some ad → w.heap.size ≤ ad.block) → SV Ab nn cb → Y.frozen? ⟨gj, 4, none⟩ = false ∧ Y.cell? ⟨gj, 4, none⟩ = some vr ∧ ((∃ Av cv, v1 = .slice Av (j.recs.length + 1) cv) ∧ ∃ col', Step id w col (Y.setCell ⟨gj, 4, none⟩ v1) col' ∧ JV (Y.setCell ⟨gj, 4, none⟩ v1) col' id gj gd v1 { j with recs := j.recs ++ [⟨0, b, Ab, cb⟩] }) := by
  subst hb
  have hgl := h.lt
  intro X Y v1 Ab cb hB ho hg hv hrb hap hsvb
  have hsz := hB.size
  have hgY : Y.heap[gj]? = some (.cells (jcells j gd vr) 81 (0, 0)) := (hg.block gj (by omega) (fun e => (h.blk gj e.symm).1 rfl)).trans (heap_below h.obj hB)
  have hset := row_set (j := 4) v1 hgY
  have hvg : ∀ k, v1.ownBlock = some k → k ≠ gj := by
    intro k hk
    rcases hv with h1 | h1
    · exact (h.blk k (h1.symm.trans hk)).1
    · rw [h1] at hk; cases hk; omega
  have e1 : rowL j.recs ++ [.slice Ab b.length cb] = rowL (j.recs ++ [(⟨0, b, Ab, cb⟩ : Wr)]) := by rw [rowL_append]; rfl
  rw [e1] at ho
  have ho2 : (Y.setCell ⟨gj, 4, none⟩ v1).ownsRow 0 22 1 v1 (j.recs.length + 1) (rowL (j.recs ++ [(⟨0, b, Ab, cb⟩ : Wr)])) := own_keep ho fun k hk => Below.heap_setCell _ _ _ _ (hvg k hk)
  have hlen : j.recs.length + 1 = (j.recs ++ [(⟨0, b, Ab, cb⟩ : Wr)]).length := by simp
  refine ⟨frozen_of_row _ _ 4 _ _ hgY, by rw [cell_of_row _ _ 4 _ _ _ hgY]; rfl, ?_, ?_⟩
  · have ho3 := ho
    rw [hlen] at ho3
    obtain ⟨Av, cv, e, -⟩ := own_FL ho3
    exact ⟨Av, cv, by rw [hlen]; exact e⟩
  · have hapb : ∀ ad, Ab = some ad → 0 < b.length → ad.block ≠ gj ∧ vr.ownBlock ≠ some ad.block := fun ad e hp => by
      have h1 : w.heap.size ≤ ad.block := hap ad e
      refine ⟨by omega, fun e2 => ?_⟩
      have := (h.own.lt _ e2).2
      omega
    have hrbY : RB (Y.setCell ⟨gj, 4, none⟩ v1) Ab b := by
      refine RB.keep (w := Y) (RB.keep hrb fun hp ad e => hg.block _ (hrb.lt hp ad e) (fun e2 => (hapb ad e hp).2 e2.symm)) fun hp ad e => Below.heap_setCell _ _ _ _ (hapb ad e hp).1
    by_cases hpos : 0 < b.length
    · refine j_add (s := ⟨0, b, Ab, cb⟩) h (((Keeps.refl _ w).below hB).grown hg (fun k e => .inl (.inr e)) |>.setCell (.inl (.inl rfl)) _) hset ho2 ?_ hsvb hrbY (fun ad e => ⟨hap ad e, fun e2 => ?_⟩)
      · rcases hv with h1 | h1
        · exact .inl h1
        · exact .inr ⟨_, h1, hsz⟩
      · have h1 : w.heap.size ≤ ad.block := hap ad e
        rcases hv with h2 | h2
        · have := (h.own.lt _ (h2.symm.trans e2)).2
          omega
        · rw [h2] at e2
          have h3 := Option.some.inj e2
          have := hrb.lt hpos ad e
          omega
    · have hnil : b = [] := List.eq_nil_of_length_eq_zero (by omega)
      subst hnil
      have st : Step id w col (Y.setCell ⟨gj, 4, none⟩ v1) (paint w col (fun k => if v1.ownBlock = some k then id else 0)) := Step.mk' (((((Keeps.refl _ w).below hB).grown hg (fun k e => .inl (.inr e))).setCell (p := ⟨gj, 4, none⟩) (.inl (.inl rfl)) v1).mono (I := fun k => k = gj ∨ vr.ownBlock = some k) fun k _ e => e.elim (fun e => e ▸ h.hcol) (fun e => (h.blk k e).2))
      refine ⟨_, st, ⟨(paint_old hgl).trans h.hcol, h.nz, hset, by rw [← hlen]; exact ho2, fun k hk2 => ?_, h.sb.step st h.nz, fun q hq => ?_⟩⟩
      · rcases hv with h1 | h1
        · have h2 := h1.symm.trans hk2
          have h3 := h.blk k h2
          exact ⟨h3.1, (paint_old (h.own.lt k h2).2).trans h3.2⟩
        · have hk3 := hk2
          rw [h1] at hk2
          cases hk2
          exact ⟨by omega, by rw [paint_new hsz, if_pos hk3]⟩
      · rcases List.mem_append.1 hq with hq | hq
        · exact (h.sr q hq).step st h.nz
        · rw [List.mem_singleton] at hq
          subst hq
          exact ⟨hsvb, RC.nil _ _ _ _⟩

theorem frame_of (T : Array Value) (R : Prop) (mk : (Nat → Value) → Act) (h : mk (fun i => T.getD i undef) = ({ tmps := T, defers := [] } : Act)) (hR : R) : ∃ us, ({ tmps := T, defers := [] } : Act) = mk us ∧ R := ⟨_, h.symm, hR⟩
/-- Where reading stands. -/
def RdAt (fin : Bool) (idj gj gd : Nat) (H : List UInt8) (j : JK) (w : World) (col : Nat → Nat) (w' : World) : Prop :=
  ∃ (rs : List Wr) (e1 : Nat) (col' : Nat → Nat), Path (Only idj) w col w' col' ∧ JAt w' col' idj gj gd { j with recs := j.recs ++ rs, endp := e1 } ∧ Pre H j.number (j.recs.length + 1) j.endp (rs.map (·.b)) e1 ∧ e1 ≤ H.length ∧ j.endp + 9 * rs.length ≤ e1 ∧ (fin = true → recAt H j.number (j.recs.length + 1 + rs.length) e1 = none)
theorem RdAt.grow {fin : Bool} {idj gj gd : Nat} {H : List UInt8} {j : JK} {w w1 w2 : World} {col : Nat → Nat} (h : RdAt fin idj gj gd H j w col w1) (hb : Below w1.heap.size w1 w2) : RdAt fin idj gj gd H j w col w2 := by
  obtain ⟨rs, e1, c1, h1, h2, h3⟩ := h
  exact ⟨rs, e1, _, h1.grow hb, h2.grow hb _, h3⟩
def endOf (gj : Nat) (w : World) : Nat := match w.cell? ⟨gj, 5, none⟩ with
  | some v => (intOf v).toNat
  | none => 0
def muR (gj L l : Nat) (w : World) : Nat := if l = 1 then 0 else 1 + (L + 1 - endOf gj w)

set_option maxRecDepth 100000 in
set_option maxHeartbeats 16000000 in
theorem reads_any (idj gj gd g c L : Nat) (j : JK) (H : List UInt8) (w : World) (col : Nat → Nat) (hj : JAt w col idj gj gd j) (hidj : idj ≠ 0) (hr : RC w col 0 (some ⟨g, 0, none⟩) H) (hL : L = H.length) (hLb : L ≤ 10000000) (hc : L ≤ c) (he : j.endp ≤ L) (hnum : j.number < 9223372036854775808) (hrn : j.recs.length ≤ 1000000) :
    Calls Try.prog 45 #[.pointer (some ⟨gj, 0, none⟩), .slice (some ⟨g, 0, none⟩) L c] w fun e w' => e = .returned (.tuple #[]) ∧ RdAt true idj gj gd H j w col w' := by
  have HST0 : Hid (RdAt false idj gj gd H j w col w) := Lib.hid ⟨[], j.endp, col, .refl, by rw [List.append_nil]; exact hj, .nil, by omega, by simp, fun h => by cases h⟩
  have HRC := Lib.hid hr
  have HL := Lib.hid hL
  obtain ⟨num, hnm⟩ : ∃ n, n = j.number := ⟨_, rfl⟩
  have HNM := Lib.hid hnm
  rw [← hnm] at hnum
  obtain ⟨k0, hk0⟩ : ∃ n, n = j.recs.length := ⟨_, rfl⟩
  have HK0 := Lib.hid hk0
  rw [← hk0] at hrn
  have hOnly : ∀ i, Only idj i → i ≠ 0 := fun i hi => by rw [show i = idj from hi]; exact hidj
  have HON := Lib.hid hOnly
  clear hj hr hL hnm hk0 he hOnly
  go_enter Try.func45, Try.ntmps45
  go_wp2
  refine wp_scope_labels (fun l a w' => ∃ us : Nat → Value, a = { tmps := #[.pointer (some ⟨gj, 0, none⟩), .slice (some ⟨g, 0, none⟩) L c, us 2, us 3, us 4, us 5, us 6, us 7, us 8, us 9, us 10, us 11, us 12, us 13, us 14, us 15, us 16, us 17, us 18, us 19, us 20, us 21, us 22, us 23, us 24, us 25, us 26, us 27, us 28, us 29, us 30, us 31, us 32, us 33, us 34, us 35, us 36, us 37, us 38, us 39, us 40, us 41, us 42, us 43, us 44, us 45, us 46, us 47, us 48, us 49, us 50, us 51, us 52, us 53, us 54, us 55, us 56, us 57, us 58, us 59, us 60, us 61, us 62, us 63, us 64, us 65, us 66, us 67, us 68, us 69, us 70, us 71, us 72, us 73, us 74, us 75, us 76, us 77, us 78, us 79, us 80, us 81, us 82, us 83, us 84, us 85, us 86, us 87, us 88, us 89, us 90, us 91, us 92, us 93, us 94], defers := [] } ∧ ((l = 0 ∧ RdAt false idj gj gd H j w col w') ∨ (l = 1 ∧ RdAt true idj gj gd H j w col w'))) (fun l _ w' => muR gj L l w') ?_ ?_
  · go_wp2
    go_step3
    obtain ⟨wr, hwr, HST⟩ : ∃ wr, wr = w ∧ Hid (RdAt false idj gj gd H j w col wr) := ⟨w, rfl, HST0⟩
    conv => arg 5; rw [← hwr]
    clear hwr HST0
    obtain ⟨rs, e1, colr, hp, hjat, hpre, hle1, hcnt, -⟩ := HST.out
    obtain ⟨vr0, hjv⟩ := hjat
    obtain ⟨AR, cR, rfl, -, -, -⟩ := own_FL hjv.own
    obtain ⟨jr, hjr⟩ : ∃ r, r = j.recs ++ rs := ⟨_, rfl⟩
    obtain ⟨rl, hrl⟩ : ∃ n, n = jr.length := ⟨_, rfl⟩
    rw [← hjr] at hjv
    have hrlk : rl = k0 + rs.length := by rw [hrl, hjr, List.length_append, HK0.out]
    rw [← hrl] at hjv
    have hrl2 : rl ≤ 3000000 := by have := HL.out; omega
    have he1L : e1 ≤ L := by rw [HL.out]; exact hle1
    have c2 : wr.cell? ⟨gj, 2, none⟩ = some (.int .i64 (num : Int)) := by rw [cell_of_row _ _ 2 _ _ _ hjv.obj, HNM.out]; rfl
    have c4 : wr.cell? ⟨gj, 4, none⟩ = some (.slice AR rl cR) := by rw [cell_of_row _ _ 4 _ _ _ hjv.obj]; rfl
    have c5 : wr.cell? ⟨gj, 5, none⟩ = some (.int .i64 (e1 : Int)) := by rw [cell_of_row _ _ 5 _ _ _ hjv.obj]; rfl
    have HMUW : Hid (muR gj L 0 wr = 1 + (L + 1 - e1)) := Lib.hid (by unfold muR endOf; rw [c5]; simp [intOf])
    have HCJ : Hid (∀ X, Below wr.heap.size wr X → X.cell? ⟨gj, 2, none⟩ = some (.int .i64 (num : Int)) ∧ X.cell? ⟨gj, 4, none⟩ = some (.slice AR rl cR)) := Lib.hid (fun X hX => ⟨(hX.cell (World.block_lt_of_cell? _ _ c2)).trans c2, (hX.cell (World.block_lt_of_cell? _ _ c4)).trans c4⟩)
    have HJV := Lib.hid hjv
    have HP := Lib.hid hp
    have HPRE := Lib.hid hpre
    have HCNT := Lib.hid hcnt
    have HJR := Lib.hid hjr
    have HRL := Lib.hid hrl
    have HRLK := Lib.hid hrlk
    have HRB := Lib.hid (RC.path HRC.out hp HON.out).read
    obtain ⟨P, hP⟩ : ∃ P, P = placeN e1 := ⟨_, rfl⟩
    have hPb := placeN_le e1
    rw [← hP] at hPb
    obtain ⟨hP1, hP2, -⟩ := hPb
    have HPP := Lib.hid hP
    have HPL : Hid (∀ X, Calls Try.prog 53 #[.int .i64 (e1 : Int)] X fun e w' => e = .returned (.int .i64 (P : Int)) ∧ X = w') := Lib.hid (fun X => by rw [hP]; exact place_any e1 X (by omega))
    have HJAT : Hid (JAt wr colr idj gj gd { j with recs := j.recs ++ rs, endp := e1 }) := Lib.hid ⟨_, by have := hjv; rw [hjr, hrl, hjr] at this; exact this⟩
    have HFIN0 : Hid (recAt H j.number (j.recs.length + 1 + rs.length) e1 = none → RdAt true idj gj gd H j w col wr) := Lib.hid (fun h => ⟨rs, e1, colr, HP.out, HJAT.out, HPRE.out, hle1, HCNT.out, fun _ => h⟩)
    have HMU1 : muR gj L 1 wr < muR gj L 0 wr := by rw [HMUW.out]; unfold muR; rw [if_pos rfl]; omega
    have HMU1H := Lib.hid HMU1
    clear hp hjv hpre hcnt hjr hrl hrlk hP c2 c4 HMU1
    go_wp2_with fail
    refine (HPL.out _).mono ?_
    rintro e w' ⟨rfl, rfl⟩
    by_cases b1 : L < P + 9
    · have HN : Hid (recAt H j.number (j.recs.length + 1 + rs.length) e1 = none) := Lib.hid (by unfold recAt; rw [if_pos (by rw [← HPP.out, ← HL.out]; exact b1)])
      have hb1 : (L : Int) < (P : Int) + 9 := by omega
      have H1 := Lib.hid (HFIN0.out HN.out)
      clear b1
      go_wp2
      refine wp_goto ?_
      exact frame_of _ _ _ rfl (.inr ⟨rfl, H1.out⟩)
    · have hb1 : ¬ (L : Int) < (P : Int) + 9 := by omega
      have hPL : P + 9 ≤ L := by omega
      have HB1N : Hid (¬ H.length < placeN e1 + 9) := Lib.hid (by rw [← HPP.out, ← HL.out]; exact b1)
      obtain ⟨_, e0, c8⟩ := HRB.out.at_ (P + 8) (by rw [← HL.out]; omega)
      cases e0
      rw [add0] at c8
      obtain ⟨xb, hxb⟩ : ∃ x, x = (H.getD (P + 8) 0).toNat := ⟨_, rfl⟩
      rw [← hxb] at c8
      have HXB := Lib.hid hxb
      clear b1 hxb
      by_cases b2 : xb = 165
      · have HB2N : Hid (¬ H.getD (placeN e1 + 8) 0 ≠ 165) := Lib.hid (by
          rw [← HPP.out]
          intro h
          apply h
          apply UInt8.toNat_inj.1
          rw [← HXB.out, b2]
          rfl)
        subst b2
        obtain ⟨xl, hxl⟩ : ∃ x, x = recLen H e1 := ⟨_, rfl⟩
        have hxlb : xl < 4294967296 := by
          rw [hxl]
          unfold recLen
          have := getN_lt ((H.drop (placeN e1 + 4)).take 4)
          rw [cut_len (by rw [← HPP.out, ← HL.out]; omega)] at this
          omega
        have HGET : Hid (Calls Try.prog 68 #[.slice (some ⟨g, P + 4, none⟩) 4 (c - (P + 4))] wr fun e w' => e = .returned (.int .i64 (xl : Int)) ∧ wr = w') := Lib.hid (by
          have h1 := get_any (some ⟨g, P + 4, none⟩) (c - (P + 4)) _ wr (cut_at HRB.out (P + 4) 4 (by rw [← HL.out]; omega)) (by rw [cut_len (by rw [← HL.out]; omega)]; omega)
          rw [cut_len (by rw [← HL.out]; omega)] at h1
          rw [hxl]
          unfold recLen
          rw [← HPP.out]
          exact h1)
        have HXL := Lib.hid hxl
        clear hxl
        by_cases hx0 : xl = 0
        · have HN : Hid (recAt H j.number (j.recs.length + 1 + rs.length) e1 = none) := Lib.hid (by unfold recAt; rw [if_neg HB1N.out, if_neg HB2N.out, if_pos (.inl (by rw [← HXL.out]; exact hx0))])
          have H1 := Lib.hid (HFIN0.out HN.out)
          subst hx0
          go_wp2_with fail
          refine HGET.out.mono ?_
          rintro e w' ⟨rfl, rfl⟩
          go_wp2
          refine wp_goto ?_
          exact frame_of _ _ _ rfl (.inr ⟨rfl, H1.out⟩)
        · obtain ⟨nn, rfl⟩ : ∃ nn, xl = nn + 1 := ⟨xl - 1, by omega⟩
          have hget := HGET.out
          rw [show ((nn + 1 : Nat) : Int) = (nn : Int) + 1 by omega] at hget
          have HGET2 := Lib.hid hget
          have HNN : Hid (recLen H e1 - 1 = nn) := Lib.hid (by rw [← HXL.out]; rfl)
          have HNZ : Hid (¬ recLen H e1 = 0) := Lib.hid (by rw [← HXL.out]; omega)
          clear hx0 hget HGET
          go_wp2_with fail
          refine HGET2.out.mono ?_
          rintro e w' ⟨rfl, rfl⟩
          by_cases b3 : 60000 < nn
          · have HN : Hid (recAt H j.number (j.recs.length + 1 + rs.length) e1 = none) := Lib.hid (by unfold recAt; rw [if_neg HB1N.out, if_neg HB2N.out, if_pos (.inr (.inl (by rw [HNN.out]; exact b3)))])
            have H1 := Lib.hid (HFIN0.out HN.out)
            have hb3 : (60000 : Int) < (nn : Int) := by omega
            clear b3
            go_wp2
            refine wp_goto ?_
            exact frame_of _ _ _ rfl (.inr ⟨rfl, H1.out⟩)
          · have hb3 : ¬ (60000 : Int) < (nn : Int) := by omega
            by_cases b4 : L < P + 9 + nn
            · have HN : Hid (recAt H j.number (j.recs.length + 1 + rs.length) e1 = none) := Lib.hid (by unfold recAt; rw [if_neg HB1N.out, if_neg HB2N.out, if_pos (.inr (.inr (by rw [HNN.out, ← HPP.out, ← HL.out]; omega)))])
              have H1 := Lib.hid (HFIN0.out HN.out)
              have hb4 : (L : Int) - ((P : Int) + 9) < (nn : Int) := by omega
              clear b3 b4
              go_wp2
              refine wp_goto ?_
              exact frame_of _ _ _ rfl (.inr ⟨rfl, H1.out⟩)
            · have hb4 : ¬ (L : Int) - ((P : Int) + 9) < (nn : Int) := by omega
              have HB3N : Hid (¬ (recLen H e1 = 0 ∨ 60000 < recLen H e1 - 1 ∨ H.length - (placeN e1 + 9) < recLen H e1 - 1)) := Lib.hid (by
                rw [HNN.out, ← HPP.out, ← HL.out]
                rintro (h | h | h)
                · exact HNZ.out h
                · omega
                · omega)
              have hfit : P + 9 + nn ≤ L := by omega
              have hnn6 : nn ≤ 60000 := by omega
              obtain ⟨B, hB⟩ : ∃ B, B = (H.drop (P + 9)).take nn := ⟨_, rfl⟩
              have hBl : B.length = nn := by rw [hB]; exact cut_len (by rw [← HL.out]; omega)
              obtain ⟨a9, ha9⟩ : ∃ a, (if c = P + 9 then some ⟨g, 0, none⟩ else some ⟨g, P + 9, none⟩ : Option Addr) = some a := by split <;> exact ⟨_, rfl⟩
              have hrb9 : ∀ X, RB X (some ⟨g, 0, none⟩) H → RB X (some a9) B := fun X hX => by
                rw [hB]
                refine hX.cut (P + 9) nn (by rw [← HL.out]; omega) (fun hp ad e => ?_)
                cases e
                rw [← ha9, if_neg (by omega), add0]
              have n1 : ¬ c = P := by omega
              obtain ⟨Q4, hQ4⟩ : ∃ Q, Q = P + 4 := ⟨_, rfl⟩
              obtain ⟨Q9, hQ9⟩ : ∃ Q, Q = P + 9 + nn := ⟨_, rfl⟩
              have w4 : IntKind.i64.wrap ((P : Int) + 4) = (Q4 : Int) := by rw [IntWalk.i64_in _ (by omega)]; omega
              have l4 : Q4 ≤ c := by omega
              have p4 : P ≤ Q4 := by omega
              have d4 : Q4 - P = 4 := by omega
              have w9 : IntKind.i64.wrap ((P : Int) + 9 + (nn : Int)) = (Q9 : Int) := by rw [IntWalk.i64_in _ (by omega)]; omega
              have l9 : Q9 ≤ c := by omega
              have t9 : ((P : Int) + 9).toNat = P + 9 := by omega
              have z9 : (0 : Int) ≤ (P : Int) + 9 := by omega
              have m9 : (P : Int) + 9 ≤ (Q9 : Int) := by omega
              have m99 : (P : Int) + 9 ≤ max (Q9 : Int) 0 := by omega
              have d9 : Q9 - (P + 9) = nn := by omega
              have wk : IntKind.i64.wrap ((rl : Int) + 1) = (rl : Int) + 1 := IntWalk.i64_in _ (by omega)
              clear hQ4 hQ9
              have HSUM : Hid (∀ X, Below wr.heap.size wr X → Calls Try.prog 48 #[.pointer (some ⟨gj, 0, none⟩), .int .i64 (num : Int), .int .i64 ((rl : Int) + 1), .slice (some a9) nn (c - (P + 9))] X (NewB X 4 (sumN num (rl + 1) B))) := Lib.hid (fun X hX => by
                have h1 := sumj_any (.pointer (some ⟨gj, 0, none⟩)) num (rl + 1) (some a9) (c - (P + 9)) B X (hrb9 X (HRB.out.below hX)) ⟨by rw [hBl]; omega, fun e => by cases e⟩ hnum (by omega)
                rw [hBl] at h1
                exact h1)
              have HEQ : Hid (∀ X A2 c2, Below wr.heap.size wr X → RB X A2 (sumN num (rl + 1) B) → Calls Try.prog 69 #[.slice (some ⟨g, P, none⟩) 4 (c - P), .slice A2 4 c2] X fun e w' => e = .returned (.bool (decide ((H.drop P).take 4 = sumN num (rl + 1) B))) ∧ Below X.heap.size X w') := Lib.hid (fun X A2 c2 hX hr2 => by
                have h1 := equal_any (some ⟨g, P, none⟩) A2 (c - P) c2 _ _ X (cut_at (HRB.out.below hX) P 4 (by rw [← HL.out]; omega)) hr2
                rw [sumN_length, cut_len (by rw [← HL.out]; omega)] at h1
                exact h1)
              have HBE : Hid (B = (H.drop (placeN e1 + 9)).take (recLen H e1 - 1)) := Lib.hid (by rw [hB, HPP.out, HNN.out])
              have HR9 := Lib.hid hrb9
              have HBLN := Lib.hid hBl
              have HIDX : Hid (j.recs.length + 1 + rs.length = rl + 1) := Lib.hid (by have := HRLK.out; have := HK0.out; omega)
              clear b3 b4 hB hBl hrb9 c5
              go_upto_region 6 with fail
              go_cut [72] (fun s72 wx => s72 = .bool (!(decide ((H.drop P).take 4 = sumN num (rl + 1) B))) ∧ Hid (Below wr.heap.size wr wx))
              case first =>
                have HBV := Lib.hid (bel_drew (Below.refl wr.heap.size wr))
                obtain ⟨s2, s4⟩ := HCJ.out wr.drew HBV.out
                refine region_const (G := G45a) (S := fun X => X.cell? ⟨gj, 2, none⟩ = some (.int .i64 (num : Int)) ∧ X.cell? ⟨gj, 4, none⟩ = some (.slice AR rl cR)) (n := 25) (by kernel_rfl) (by kernel_rfl) rfl ⟨s2, s4⟩ (fun HG hS0 => ?_)
                have Gns := Gns45a
                clear s2 s4
                generalize wr.drew = V at *
                simp only [Array.replicate_succ, Array.replicate_zero, List.push_toArray, List.nil_append, List.cons_append]
                refine wpAnyH_take (i := 0) (v := ?_) (o_at HG 0 rfl) Gns (by kernel_rfl) (by kernel_rfl) (fun _ _ _ h => h) (Or.inl ⟨(by kernel_rfl), ?_⟩) (by first | trivial | assumption) ?_
                rotate_left
                · (intro w hSw; (try dsimp only at hSw); go_simp; try with_reducible rfl)
                try simp only [Act.put, List.getElem_toArray, List.getElem_cons_zero, List.getElem_cons_succ, List.setIfInBounds_toArray, List.set_cons_zero, List.set_cons_succ]
                refine wpAnyH_take (i := 1) (v := ?_) (o_at HG 1 rfl) Gns (by kernel_rfl) (by kernel_rfl) (fun _ _ _ h => h) (Or.inl ⟨(by kernel_rfl), ?_⟩) (by first | trivial | assumption) ?_
                rotate_left
                · (intro w hSw; (try dsimp only at hSw); go_simp; try with_reducible rfl)
                try simp only [Act.put, List.getElem_toArray, List.getElem_cons_zero, List.getElem_cons_succ, List.setIfInBounds_toArray, List.set_cons_zero, List.set_cons_succ]
                refine wpAnyH_take (i := 2) (v := ?_) (o_at HG 2 rfl) Gns (by kernel_rfl) (by kernel_rfl) (fun _ _ _ h => h) (Or.inl ⟨(by kernel_rfl), ?_⟩) (by first | trivial | assumption) ?_
                rotate_left
                · (intro w hSw; (try dsimp only at hSw); go_simp; try with_reducible rfl)
                try simp only [Act.put, List.getElem_toArray, List.getElem_cons_zero, List.getElem_cons_succ, List.setIfInBounds_toArray, List.set_cons_zero, List.set_cons_succ]
                refine wpAnyH_take (i := 3) (v := ?_) (o_at HG 3 rfl) Gns (by kernel_rfl) (by kernel_rfl) (fun _ _ _ h => h) (Or.inl ⟨(by kernel_rfl), ?_⟩) (by first | trivial | assumption) ?_
                rotate_left
                · (intro w hSw; (try dsimp only at hSw); go_simp; try with_reducible rfl)
                try simp only [Act.put, List.getElem_toArray, List.getElem_cons_zero, List.getElem_cons_succ, List.setIfInBounds_toArray, List.set_cons_zero, List.set_cons_succ]
                refine wpAnyH_take (i := 4) (v := ?_) (o_at HG 4 rfl) Gns (by kernel_rfl) (by kernel_rfl) (fun _ _ _ h => h) (Or.inl ⟨(by kernel_rfl), ?_⟩) (by first | trivial | assumption) ?_
                rotate_left
                · (intro w hSw; (try dsimp only at hSw); go_simp; try with_reducible rfl)
                try simp only [Act.put, List.getElem_toArray, List.getElem_cons_zero, List.getElem_cons_succ, List.setIfInBounds_toArray, List.set_cons_zero, List.set_cons_succ]
                refine wpAnyH_take (i := 5) (v := ?_) (o_at HG 5 rfl) Gns (by kernel_rfl) (by kernel_rfl) (fun _ _ _ h => h) (Or.inl ⟨(by kernel_rfl), ?_⟩) (by first | trivial | assumption) ?_
                rotate_left
                · (intro w hSw; (try dsimp only at hSw); go_simp; try with_reducible rfl)
                try simp only [Act.put, List.getElem_toArray, List.getElem_cons_zero, List.getElem_cons_succ, List.setIfInBounds_toArray, List.set_cons_zero, List.set_cons_succ]
                refine wpAnyH_take (i := 6) (v := ?_) (o_at HG 6 rfl) Gns (by kernel_rfl) (by kernel_rfl) (fun _ _ _ h => h) (Or.inl ⟨(by kernel_rfl), ?_⟩) (by first | trivial | assumption) ?_
                rotate_left
                · (intro w hSw; (try dsimp only at hSw); go_simp; try with_reducible rfl)
                try simp only [Act.put, List.getElem_toArray, List.getElem_cons_zero, List.getElem_cons_succ, List.setIfInBounds_toArray, List.set_cons_zero, List.set_cons_succ]
                refine wpAnyH_take (i := 7) (v := ?_) (o_at HG 7 rfl) Gns (by kernel_rfl) (by kernel_rfl) (fun _ _ _ h => h) (Or.inl ⟨(by kernel_rfl), ?_⟩) (by first | trivial | assumption) ?_
                rotate_left
                · (intro w hSw; (try dsimp only at hSw); go_simp; try with_reducible rfl)
                try simp only [Act.put, List.getElem_toArray, List.getElem_cons_zero, List.getElem_cons_succ, List.setIfInBounds_toArray, List.set_cons_zero, List.set_cons_succ]
                refine wpAnyH_take (i := 8) (v := ?_) (o_at HG 8 rfl) Gns (by kernel_rfl) (by kernel_rfl) (fun _ _ _ h => h) (Or.inl ⟨(by kernel_rfl), ?_⟩) (by first | trivial | assumption) ?_
                rotate_left
                · (intro w hSw; (try dsimp only at hSw); go_simp; try with_reducible rfl)
                try simp only [Act.put, List.getElem_toArray, List.getElem_cons_zero, List.getElem_cons_succ, List.setIfInBounds_toArray, List.set_cons_zero, List.set_cons_succ]
                refine wpAnyH_take (i := 9) (v := ?_) (o_at HG 9 rfl) Gns (by kernel_rfl) (by kernel_rfl) (fun _ _ _ h => h) (Or.inl ⟨(by kernel_rfl), ?_⟩) (by first | trivial | assumption) ?_
                rotate_left
                · (intro w hSw; (try dsimp only at hSw); go_simp; try with_reducible rfl)
                try simp only [Act.put, List.getElem_toArray, List.getElem_cons_zero, List.getElem_cons_succ, List.setIfInBounds_toArray, List.set_cons_zero, List.set_cons_succ]
                refine wpAnyH_take (i := 10) (v := ?_) (o_at HG 10 rfl) Gns (by kernel_rfl) (by kernel_rfl) (fun _ _ _ h => h) (Or.inl ⟨(by kernel_rfl), ?_⟩) (by first | trivial | assumption) ?_
                rotate_left
                · (intro w hSw; (try dsimp only at hSw); go_simp; try with_reducible rfl)
                try simp only [Act.put, List.getElem_toArray, List.getElem_cons_zero, List.getElem_cons_succ, List.setIfInBounds_toArray, List.set_cons_zero, List.set_cons_succ]
                refine wpAnyH_take (i := 11) (v := ?_) (o_at HG 11 rfl) Gns (by kernel_rfl) (by kernel_rfl) (fun _ _ _ h => h) (Or.inl ⟨(by kernel_rfl), ?_⟩) (by first | trivial | assumption) ?_
                rotate_left
                · (intro w hSw; (try dsimp only at hSw); go_simp; try with_reducible rfl)
                try simp only [Act.put, List.getElem_toArray, List.getElem_cons_zero, List.getElem_cons_succ, List.setIfInBounds_toArray, List.set_cons_zero, List.set_cons_succ]
                refine wpAnyH_take (i := 12) (v := ?_) (o_at HG 12 rfl) Gns (by kernel_rfl) (by kernel_rfl) (fun _ _ _ h => h) (Or.inl ⟨(by kernel_rfl), ?_⟩) (by first | trivial | assumption) ?_
                rotate_left
                · (intro w hSw; (try dsimp only at hSw); go_simp; try with_reducible rfl)
                try simp only [Act.put, List.getElem_toArray, List.getElem_cons_zero, List.getElem_cons_succ, List.setIfInBounds_toArray, List.set_cons_zero, List.set_cons_succ]
                refine wpAnyH_take (i := 13) (v := ?_) (o_at HG 13 rfl) Gns (by kernel_rfl) (by kernel_rfl) (fun _ _ _ h => h) (Or.inl ⟨(by kernel_rfl), ?_⟩) (by first | trivial | assumption) ?_
                rotate_left
                · (intro w hSw; (try dsimp only at hSw); go_simp; try with_reducible rfl)
                try simp only [Act.put, List.getElem_toArray, List.getElem_cons_zero, List.getElem_cons_succ, List.setIfInBounds_toArray, List.set_cons_zero, List.set_cons_succ]
                refine wpAnyH_take (i := 14) (v := ?_) (o_at HG 14 rfl) Gns (by kernel_rfl) (by kernel_rfl) (fun _ _ _ h => h) (Or.inl ⟨(by kernel_rfl), ?_⟩) (by first | trivial | assumption) ?_
                rotate_left
                · (intro w hSw; (try dsimp only at hSw); go_simp; try with_reducible rfl)
                try simp only [Act.put, List.getElem_toArray, List.getElem_cons_zero, List.getElem_cons_succ, List.setIfInBounds_toArray, List.set_cons_zero, List.set_cons_succ]
                refine wpAnyH_take (i := 15) (v := ?_) (o_at HG 15 rfl) Gns (by kernel_rfl) (by kernel_rfl) (fun _ _ _ h => h) (Or.inl ⟨(by kernel_rfl), ?_⟩) (by first | trivial | assumption) ?_
                rotate_left
                · (intro w hSw; (try dsimp only at hSw); go_simp; try with_reducible rfl)
                try simp only [Act.put, List.getElem_toArray, List.getElem_cons_zero, List.getElem_cons_succ, List.setIfInBounds_toArray, List.set_cons_zero, List.set_cons_succ]
                refine wpAnyH_take (i := 16) (v := ?_) (o_at HG 16 rfl) Gns (by kernel_rfl) (by kernel_rfl) (fun _ _ _ h => h) (Or.inl ⟨(by kernel_rfl), ?_⟩) (by first | trivial | assumption) ?_
                rotate_left
                · (intro w hSw; (try dsimp only at hSw); go_simp; try with_reducible rfl)
                try simp only [Act.put, List.getElem_toArray, List.getElem_cons_zero, List.getElem_cons_succ, List.setIfInBounds_toArray, List.set_cons_zero, List.set_cons_succ]
                refine wpAnyH_take (i := 17) (v := ?_) (o_at HG 17 rfl) Gns (by kernel_rfl) (by kernel_rfl) (fun _ _ _ h => h) (Or.inl ⟨(by kernel_rfl), ?_⟩) (by first | trivial | assumption) ?_
                rotate_left
                · (intro w hSw; (try dsimp only at hSw); go_simp; try with_reducible rfl)
                try simp only [Act.put, List.getElem_toArray, List.getElem_cons_zero, List.getElem_cons_succ, List.setIfInBounds_toArray, List.set_cons_zero, List.set_cons_succ]
                refine wpAnyH_take (i := 18) (v := ?_) (o_at HG 18 rfl) Gns (by kernel_rfl) (by kernel_rfl) (fun _ _ _ h => h) (Or.inl ⟨(by kernel_rfl), ?_⟩) (by first | trivial | assumption) ?_
                rotate_left
                · (intro w hSw; (try dsimp only at hSw); go_simp; try with_reducible rfl)
                try simp only [Act.put, List.getElem_toArray, List.getElem_cons_zero, List.getElem_cons_succ, List.setIfInBounds_toArray, List.set_cons_zero, List.set_cons_succ]
                refine wpAnyH_take (i := 19) (v := ?_) (o_at HG 19 rfl) Gns (by kernel_rfl) (by kernel_rfl) (fun _ _ _ h => h) (Or.inl ⟨(by kernel_rfl), ?_⟩) (by first | trivial | assumption) ?_
                rotate_left
                · (intro w hSw; (try dsimp only at hSw); go_simp; try with_reducible rfl)
                try simp only [Act.put, List.getElem_toArray, List.getElem_cons_zero, List.getElem_cons_succ, List.setIfInBounds_toArray, List.set_cons_zero, List.set_cons_succ]
                refine wpAnyH_take (i := 20) (v := ?_) (o_at HG 20 rfl) Gns (by kernel_rfl) (by kernel_rfl) (fun _ _ _ h => h) (Or.inl ⟨(by kernel_rfl), ?_⟩) (by first | trivial | assumption) ?_
                rotate_left
                · (intro w hSw; (try dsimp only at hSw); go_simp; try with_reducible rfl)
                try simp only [Act.put, List.getElem_toArray, List.getElem_cons_zero, List.getElem_cons_succ, List.setIfInBounds_toArray, List.set_cons_zero, List.set_cons_succ]
                refine wpAnyH_take (i := 21) (v := ?_) (o_at HG 21 rfl) Gns (by kernel_rfl) (by kernel_rfl) (fun _ _ _ h => h) (Or.inl ⟨(by kernel_rfl), ?_⟩) (by first | trivial | assumption) ?_
                rotate_left
                · (intro w hSw; (try dsimp only at hSw); go_simp; try with_reducible rfl)
                try simp only [Act.put, List.getElem_toArray, List.getElem_cons_zero, List.getElem_cons_succ, List.setIfInBounds_toArray, List.set_cons_zero, List.set_cons_succ]
                refine wpAnyH_ready (rs := [22]) (by kernel_rfl) (by simp) ?_
                refine AllReadyH.cons (o_at HG 22 rfl) ?_ (AllReadyH.nil)
                · intro K' hK
                  rw [if_pos (by kernel_rfl)]
                  go_simp
                  (with_reducible refine (HSUM.out V HBV.out).mono ?_)
                  rintro e X1 ⟨A2, c2, rfl, -, rb2, -, hb2⟩
                  have HB1 := Lib.hid (bel_then HBV.out hb2)
                  have RB2 := Lib.hid rb2
                  obtain ⟨s2, s4⟩ := HCJ.out X1 HB1.out
                  refine hK.out _ _ ⟨s2, s4⟩ (fun hS1 => ?_)
                  clear hb2 rb2 s2 s4
                  try simp only [Act.put, List.getElem_toArray, List.getElem_cons_zero, List.getElem_cons_succ, List.setIfInBounds_toArray, List.set_cons_zero, List.set_cons_succ]
                  refine wpAnyH_ready (rs := [23]) (by kernel_rfl) (by simp) ?_
                  refine AllReadyH.cons (o_at HG 23 rfl) ?_ (AllReadyH.nil)
                  · intro K' hK
                    rw [if_pos (by kernel_rfl)]
                    go_simp
                    (with_reducible refine (HEQ.out X1 A2 c2 HB1.out RB2.out).mono ?_)
                    rintro e X2 ⟨rfl, hb3⟩
                    have HB2 := Lib.hid (bel_then HB1.out hb3)
                    obtain ⟨s2, s4⟩ := HCJ.out X2 HB2.out
                    refine hK.out _ _ ⟨s2, s4⟩ (fun hS2 => ?_)
                    clear hb3 s2 s4
                    try simp only [Act.put, List.getElem_toArray, List.getElem_cons_zero, List.getElem_cons_succ, List.setIfInBounds_toArray, List.set_cons_zero, List.set_cons_succ]
                    refine wpAnyH_take (i := 24) (v := ?_) (o_at HG 24 rfl) Gns (by kernel_rfl) (by kernel_rfl) (fun _ _ _ h => h) (Or.inl ⟨(by kernel_rfl), ?_⟩) (by first | trivial | assumption) ?_
                    rotate_left
                    · (intro w hSw; (try dsimp only at hSw); go_simp; try with_reducible rfl)
                    try simp only [Act.put, List.getElem_toArray, List.getElem_cons_zero, List.getElem_cons_succ, List.setIfInBounds_toArray, List.set_cons_zero, List.set_cons_succ]
                    refine wpAnyH_done (by kernel_rfl) ?_ _
                    go_wp2
                    go_meet
                    exact ⟨rfl, HB2⟩
              case rest =>
                obtain ⟨rfl, HBW⟩ := hcut
                clear w4 l4 p4 d4 wk n1
                cases hq : decide ((H.drop P).take 4 = sumN num (rl + 1) B) with
                | false =>
                  have HN : Hid (recAt H j.number (j.recs.length + 1 + rs.length) e1 = none) := Lib.hid (by
                    unfold recAt
                    rw [if_neg HB1N.out, if_neg HB2N.out, if_neg HB3N.out, if_pos]
                    rw [← HBE.out, HIDX.out, ← HPP.out, ← HNM.out]
                    exact of_decide_eq_false hq)
                  clear hq
                  have H1 := Lib.hid ((HFIN0.out HN.out).grow HBW.out)
                  have HMU1H : Hid (muR gj L 1 wc < muR gj L 0 wr) := Lib.hid (by rw [HMUW.out]; unfold muR; rw [if_pos rfl]; omega)
                  go_wp2
                  refine wp_goto ?_
                  exact frame_of _ _ _ rfl (.inr ⟨rfl, H1.out⟩)
                | true =>
                  have HN : Hid (recAt H j.number (j.recs.length + 1 + rs.length) e1 = some B) := Lib.hid (by
                    unfold recAt
                    rw [if_neg HB1N.out, if_neg HB2N.out, if_neg HB3N.out, ← HBE.out, if_neg]
                    rw [HIDX.out, ← HPP.out, ← HNM.out]
                    exact fun h => h (of_decide_eq_true hq))
                  clear hq
                  go_upto_region 7 with fail
                  obtain ⟨wb, hwb⟩ : ∃ W, W = wc := ⟨_, rfl⟩
                  have HBW' : Hid (Below wr.heap.size wr wb) := Lib.hid (by rw [hwb]; exact HBW.out)
                  rw [← hwb]
                  clear hwb HBW
                  have jvb := HJV.out.grow HBW'.out (fun _ => 0)
                  have HJVB := Lib.hid jvb
                  have HPB := Lib.hid (HP.out.grow HBW'.out)
                  have HOWN := Lib.hid jvb.own
                  have HFIN := Lib.hid (j_fin jvb nn B HBLN.out)
                  have HCJ2 : Hid (∀ X, Below wb.heap.size wb X → X.cell? ⟨gj, 2, none⟩ = some (.int .i64 (num : Int)) ∧ X.cell? ⟨gj, 4, none⟩ = some (.slice AR rl cR)) := Lib.hid (fun X hX => HCJ.out X (bel_then HBW'.out hX))
                  have HCLN : Hid (∀ X, Below wb.heap.size wb X → Calls Try.prog 44 #[.slice (some a9) nn (c - (P + 9))] X (CloneP B X)) := Lib.hid (fun X hX => clone_at (some a9) (c - (P + 9)) nn B X HBLN.out.symm (HR9.out X (HRB.out.below (bel_then HBW'.out hX))) ⟨by rw [HBLN.out]; omega, fun e => by cases e⟩ (by rw [HBLN.out]; omega))
                  clear jvb
                  simp only [← HRL.out] at HOWN HFIN
                  have HY0 := Lib.hid (bel_drew (Below.refl wb.heap.size wb))
                  refine region_const (G := G45b) (S := fun _ => True) (n := 17) (by kernel_rfl) (by kernel_rfl) rfl trivial (fun HG _ => ?_)
                  have Gns := Gns45b
                  generalize wb.drew = Y0 at *
                  simp only [Array.replicate_succ, Array.replicate_zero, List.push_toArray, List.nil_append, List.cons_append]
                  refine wpAnyH_take (i := 0) (v := ?_) (o_at HG 0 rfl) Gns (by kernel_rfl) (by kernel_rfl) (fun _ _ _ h => h) (Or.inl ⟨(by kernel_rfl), ?_⟩) (by first | trivial | assumption) ?_
                  rotate_left
                  · (intro w hSw; (try dsimp only at hSw); go_simp; try with_reducible rfl)
                  try simp only [Act.put, List.getElem_toArray, List.getElem_cons_zero, List.getElem_cons_succ, List.setIfInBounds_toArray, List.set_cons_zero, List.set_cons_succ]
                  refine wpAnyH_take (i := 1) (v := ?_) (o_at HG 1 rfl) Gns (by kernel_rfl) (by kernel_rfl) (fun _ _ _ h => h) (Or.inl ⟨(by kernel_rfl), ?_⟩) (by first | trivial | assumption) ?_
                  rotate_left
                  · (intro w hSw; (try dsimp only at hSw); go_simp; try with_reducible rfl)
                  try simp only [Act.put, List.getElem_toArray, List.getElem_cons_zero, List.getElem_cons_succ, List.setIfInBounds_toArray, List.set_cons_zero, List.set_cons_succ]
                  refine wpAnyH_take (i := 2) (v := ?_) (o_at HG 2 rfl) Gns (by kernel_rfl) (by kernel_rfl) (fun _ _ _ h => h) (Or.inl ⟨(by kernel_rfl), ?_⟩) (by first | trivial | assumption) ?_
                  rotate_left
                  · (intro w hSw; (try dsimp only at hSw); go_simp; try with_reducible rfl)
                  try simp only [Act.put, List.getElem_toArray, List.getElem_cons_zero, List.getElem_cons_succ, List.setIfInBounds_toArray, List.set_cons_zero, List.set_cons_succ]
                  refine wpAnyH_take (i := 3) (v := ?_) (o_at HG 3 rfl) Gns (by kernel_rfl) (by kernel_rfl) (fun _ _ _ h => h) (Or.inl ⟨(by kernel_rfl), ?_⟩) (by first | trivial | assumption) ?_
                  rotate_left
                  · (intro w hSw; (try dsimp only at hSw); go_simp; try with_reducible rfl)
                  try simp only [Act.put, List.getElem_toArray, List.getElem_cons_zero, List.getElem_cons_succ, List.setIfInBounds_toArray, List.set_cons_zero, List.set_cons_succ]
                  refine wpAnyH_take (i := 5) (v := ?_) (o_at HG 5 rfl) Gns (by kernel_rfl) (by kernel_rfl) (fun _ _ _ h => h) (Or.inl ⟨(by kernel_rfl), ?_⟩) (by first | trivial | assumption) ?_
                  rotate_left
                  · (intro w hSw; (try dsimp only at hSw); go_simp; try with_reducible rfl)
                  try simp only [Act.put, List.getElem_toArray, List.getElem_cons_zero, List.getElem_cons_succ, List.setIfInBounds_toArray, List.set_cons_zero, List.set_cons_succ]
                  refine wpAnyH_take (i := 6) (v := ?_) (o_at HG 6 rfl) Gns (by kernel_rfl) (by kernel_rfl) (fun _ _ _ h => h) (Or.inl ⟨(by kernel_rfl), ?_⟩) (by first | trivial | assumption) ?_
                  rotate_left
                  · (intro w hSw; (try dsimp only at hSw); go_simp; try with_reducible rfl)
                  try simp only [Act.put, List.getElem_toArray, List.getElem_cons_zero, List.getElem_cons_succ, List.setIfInBounds_toArray, List.set_cons_zero, List.set_cons_succ]
                  refine wpAnyH_take (i := 7) (v := ?_) (o_at HG 7 rfl) Gns (by kernel_rfl) (by kernel_rfl) (fun _ _ _ h => h) (Or.inl ⟨(by kernel_rfl), ?_⟩) (by first | trivial | assumption) ?_
                  rotate_left
                  · (intro w hSw; (try dsimp only at hSw); go_simp; try with_reducible rfl)
                  try simp only [Act.put, List.getElem_toArray, List.getElem_cons_zero, List.getElem_cons_succ, List.setIfInBounds_toArray, List.set_cons_zero, List.set_cons_succ]
                  refine wpAnyH_take (i := 8) (v := ?_) (o_at HG 8 rfl) Gns (by kernel_rfl) (by kernel_rfl) (fun _ _ _ h => h) (Or.inl ⟨(by kernel_rfl), ?_⟩) (by first | trivial | assumption) ?_
                  rotate_left
                  · (intro w hSw; (try dsimp only at hSw); go_simp; try with_reducible rfl)
                  try simp only [Act.put, List.getElem_toArray, List.getElem_cons_zero, List.getElem_cons_succ, List.setIfInBounds_toArray, List.set_cons_zero, List.set_cons_succ]
                  refine wpAnyH_take (i := 9) (v := ?_) (o_at HG 9 rfl) Gns (by kernel_rfl) (by kernel_rfl) (fun _ _ _ h => h) (Or.inl ⟨(by kernel_rfl), ?_⟩) (by first | trivial | assumption) ?_
                  rotate_left
                  · (intro w hSw; (try dsimp only at hSw); go_simp; try with_reducible rfl)
                  try simp only [Act.put, List.getElem_toArray, List.getElem_cons_zero, List.getElem_cons_succ, List.setIfInBounds_toArray, List.set_cons_zero, List.set_cons_succ]
                  refine wpAnyH_take (i := 10) (v := ?_) (o_at HG 10 rfl) Gns (by kernel_rfl) (by kernel_rfl) (fun _ _ _ h => h) (Or.inl ⟨(by kernel_rfl), ?_⟩) (by first | trivial | assumption) ?_
                  rotate_left
                  · (intro w hSw; (try dsimp only at hSw); go_simp; try with_reducible rfl)
                  try simp only [Act.put, List.getElem_toArray, List.getElem_cons_zero, List.getElem_cons_succ, List.setIfInBounds_toArray, List.set_cons_zero, List.set_cons_succ]
                  refine wpAnyH_ready (rs := [4, 11]) (by kernel_rfl) (by simp) ?_
                  refine AllReadyH.cons (o_at HG 4 rfl) ?_ (AllReadyH.cons (o_at HG 11 rfl) ?_ (AllReadyH.nil))
                  · intro K' hK
                    have hc4 : Y0.cell? ⟨gj, 4, none⟩ = some (.slice AR rl cR) := (HCJ2.out Y0 HY0.out).2
                    rw [if_pos (by kernel_rfl)]
                    go_simp
                    clear hc4
                    refine hK.out _ _ trivial (fun _ => ?_)
                    try simp only [Act.put, List.getElem_toArray, List.getElem_cons_zero, List.getElem_cons_succ, List.setIfInBounds_toArray, List.set_cons_zero, List.set_cons_succ]
                    refine wpAnyH_ready (rs := [11]) (by kernel_rfl) (by simp) ?_
                    refine AllReadyH.cons (o_at HG 11 rfl) ?_ (AllReadyH.nil)
                    · intro K' hK
                      rw [if_pos (by kernel_rfl)]
                      go_simp
                      (with_reducible refine (HCLN.out Y0 HY0.out).mono ?_)
                      rintro e Y1 ⟨vb, rfl, hob, hbel⟩
                      obtain ⟨Ab, cb, rfl, sb, rbb⟩ := hob.reads
                      have hbs := hob.base_
                      rw [HBLN.out] at sb hbs ⊢
                      have HY1 := Lib.hid (bel_then HY0.out hbel)
                      have SB := Lib.hid sb
                      have RBB := Lib.hid rbb
                      have HAP : Hid (∀ ad, Ab = some ad → wb.heap.size ≤ ad.block) := Lib.hid (fun ad e => Nat.le_trans HY0.out.size (hbs ad.block (by rw [e]; rfl)))
                      clear hob hbel sb rbb hbs
                      refine hK.out _ _ trivial (fun _ => ?_)
                      try simp only [Act.put, List.getElem_toArray, List.getElem_cons_zero, List.getElem_cons_succ, List.setIfInBounds_toArray, List.set_cons_zero, List.set_cons_succ]
                      refine wpAnyH_ready (rs := [12]) (by kernel_rfl) (by simp) ?_
                      refine AllReadyH.cons (o_at HG 12 rfl) ?_ (AllReadyH.nil)
                      · intro K' hK
                        rw [if_pos (by kernel_rfl)]
                        go_simp
                        have HY2 := Lib.hid (bel_alloc HY1.out (.cells #[.slice Ab nn cb] 22))
                        have HN2 : Hid (∀ j u, [Value.slice Ab nn cb][j]? = some u → (Y1.alloc (.cells #[.slice Ab nn cb] 22)).cell? ((⟨Y1.heap.size, 0, none⟩ : Addr).add j) = some u) := Lib.hid (fun j u hu => cell_alloc _ _ _ _ _ rfl j u (by simpa using hu))
                        have RB2' := Lib.hid (RBB.out.alloc (.cells #[.slice Ab nn cb] 22))
                        generalize Y1.alloc (.cells #[.slice Ab nn cb] 22) = Y2 at *
                        generalize Y1.heap.size = k40 at *
                        refine hK.out _ _ trivial (fun _ => ?_)
                        try simp only [Act.put, List.getElem_toArray, List.getElem_cons_zero, List.getElem_cons_succ, List.setIfInBounds_toArray, List.set_cons_zero, List.set_cons_succ]
                        refine wpAnyH_ready (rs := [13]) (by kernel_rfl) (by simp) ?_
                        refine AllReadyH.cons (o_at HG 13 rfl) ?_ (AllReadyH.nil)
                        · intro K' hK
                          refine step_app (by kernel_rfl) _ _ 23 rfl 0 22 (.slice none 0 0) 1 24 Try.underlying23 info22 rfl (by decide) (.slice AR rl cR) rl (rowL jr) rfl ?_ (some ⟨k40, 0, none⟩) 1 1 [.slice Ab nn cb] rfl rfl (fun e => by cases e) (fun _ => ⟨_, rfl, HN2.out⟩) (by intro u hu; simp only [List.mem_cons, List.not_mem_nil, or_false] at hu; rcases hu with rfl; rfl) (by unfold maxLen; omega) (by omega) (Nat.zero_le _) ?_
                          · exact own_keep HOWN.out fun j hj => HY2.out.block j (HOWN.out.lt j hj).2
                          intro v3 Y3 ho hg hv
                          have hfin := HFIN.out Y2 Y3 v3 Ab cb HY2.out ho hg hv RB2'.out HAP.out SB.out
                          have hz4 : Y3.frozen? ⟨gj, 4, none⟩ = false := hfin.1
                          have hc4 : Y3.cell? ⟨gj, 4, none⟩ = some (.slice AR rl cR) := hfin.2.1
                          have HEND := Lib.hid hfin.2.2
                          clear ho hg hv hfin
                          refine hK.out _ _ trivial (fun _ => ?_)
                          try simp only [Act.put, List.getElem_toArray, List.getElem_cons_zero, List.getElem_cons_succ, List.setIfInBounds_toArray, List.set_cons_zero, List.set_cons_succ]
                          refine wpAnyH_take (i := 14) (v := ?_) (o_at HG 14 rfl) Gns (by kernel_rfl) (by kernel_rfl) (fun _ _ _ h => h) (Or.inl ⟨(by kernel_rfl), ?_⟩) (by first | trivial | assumption) ?_
                          rotate_left
                          · (intro w hSw; (try dsimp only at hSw); go_simp; try with_reducible rfl)
                          try simp only [Act.put, List.getElem_toArray, List.getElem_cons_zero, List.getElem_cons_succ, List.setIfInBounds_toArray, List.set_cons_zero, List.set_cons_succ]
                          refine wpAnyH_take (i := 15) (v := ?_) (o_at HG 15 rfl) Gns (by kernel_rfl) (by kernel_rfl) (fun _ _ _ h => h) (Or.inl ⟨(by kernel_rfl), ?_⟩) (by first | trivial | assumption) ?_
                          rotate_left
                          · (intro w hSw; (try dsimp only at hSw); go_simp; try with_reducible rfl)
                          try simp only [Act.put, List.getElem_toArray, List.getElem_cons_zero, List.getElem_cons_succ, List.setIfInBounds_toArray, List.set_cons_zero, List.set_cons_succ]
                          refine wpAnyH_ready (rs := [16]) (by kernel_rfl) (by simp) ?_
                          refine AllReadyH.cons (o_at HG 16 rfl) ?_ (AllReadyH.nil)
                          · intro K' hK
                            obtain ⟨Av, cv, hvv⟩ := HEND.out.1
                            subst hvv
                            rw [if_pos (by kernel_rfl)]
                            go_simp
                            clear hz4 hc4
                            refine hK.out _ _ trivial (fun _ => ?_)
                            try simp only [Act.put, List.getElem_toArray, List.getElem_cons_zero, List.getElem_cons_succ, List.setIfInBounds_toArray, List.set_cons_zero, List.set_cons_succ]
                            refine wpAnyH_done (by kernel_rfl) ?_ _
                            obtain ⟨-, c7', st7, jv7⟩ := HEND.out
                            have P7 := Lib.hid (Path.step (J := Only idj) rfl HPB.out st7)
                            have fz5 := frozen_of_row _ _ 5 _ _ jv7.obj
                            have cz5 : (Y3.setCell ⟨gj, 4, none⟩ (.slice Av (rl + 1) cv)).cell? ⟨gj, 5, none⟩ = some (.int .i64 (e1 : Int)) := by rw [cell_of_row _ _ 5 _ _ _ jv7.obj]; rfl
                            have hset := row_set (j := 5) (.int .i64 ((P + 9 + nn : Nat) : Int)) jv7.obj
                            obtain ⟨st8, jv8⟩ := jv7.put (j' := { j with recs := jr ++ [⟨0, B, Ab, cb⟩], endp := P + 9 + nn }) (keeps_set (j := 5) (u := .int .i64 ((P + 9 + nn : Nat) : Int)) (Keeps.refl (fun k => k = gj) _) rfl) hset rfl jv7.sb
                            rw [show ((P + 9 + nn : Nat) : Int) = (P : Int) + 9 + (nn : Int) by omega] at st8 jv8
                            have P8 := Lib.hid (Path.step (J := Only idj) rfl P7.out st8)
                            have c58 : ((Y3.setCell ⟨gj, 4, none⟩ (.slice Av (rl + 1) cv)).setCell ⟨gj, 5, none⟩ (.int .i64 ((P : Int) + 9 + (nn : Int)))).cell? ⟨gj, 5, none⟩ = some (.int .i64 ((P + 9 + nn : Nat) : Int)) := by rw [cell_of_row _ _ 5 _ _ _ jv8.obj]; rfl
                            have H0 : Hid (RdAt false idj gj gd H j w col ((Y3.setCell ⟨gj, 4, none⟩ (.slice Av (rl + 1) cv)).setCell ⟨gj, 5, none⟩ (.int .i64 ((P : Int) + 9 + (nn : Int))))) := Lib.hid ⟨rs ++ [⟨0, B, Ab, cb⟩], P + 9 + nn, c7', P8.out, ⟨_, by rw [← List.append_assoc, ← HJR.out]; exact jv8⟩, by
                              rw [List.map_append]
                              have h1 := Pre.snoc HPRE.out (b := B) (by rw [List.length_map]; exact HN.out)
                              rw [← HPP.out, HBLN.out] at h1
                              exact h1, by rw [← HL.out]; omega, by rw [List.length_append]; have := HCNT.out; simp; omega, fun h => by cases h⟩
                            have HMU0 : Hid (muR gj L 0 ((Y3.setCell ⟨gj, 4, none⟩ (.slice Av (rl + 1) cv)).setCell ⟨gj, 5, none⟩ (.int .i64 ((P : Int) + 9 + (nn : Int)))) < muR gj L 0 wr) := Lib.hid (by
                              rw [HMUW.out]
                              unfold muR endOf
                              rw [c58]
                              simp [intOf]
                              omega)
                            clear hset st8 jv8 c58 st7 jv7 w9 l9 t9 z9 m9 m99 d9
                            go_wp2
                            refine wp_goto ?_
                            exact frame_of _ _ _ rfl (.inl ⟨rfl, H0.out⟩)
                  · intro K' hK
                    rw [if_pos (by kernel_rfl)]
                    go_simp
                    (with_reducible refine (HCLN.out Y0 HY0.out).mono ?_)
                    rintro e Y1 ⟨vb, rfl, hob, hbel⟩
                    obtain ⟨Ab, cb, rfl, sb, rbb⟩ := hob.reads
                    have hbs := hob.base_
                    rw [HBLN.out] at sb hbs ⊢
                    have HY1 := Lib.hid (bel_then HY0.out hbel)
                    have SB := Lib.hid sb
                    have RBB := Lib.hid rbb
                    have HAP : Hid (∀ ad, Ab = some ad → wb.heap.size ≤ ad.block) := Lib.hid (fun ad e => Nat.le_trans HY0.out.size (hbs ad.block (by rw [e]; rfl)))
                    clear hob hbel sb rbb hbs
                    refine hK.out _ _ trivial (fun _ => ?_)
                    try simp only [Act.put, List.getElem_toArray, List.getElem_cons_zero, List.getElem_cons_succ, List.setIfInBounds_toArray, List.set_cons_zero, List.set_cons_succ]
                    refine wpAnyH_ready (rs := [4, 12]) (by kernel_rfl) (by simp) ?_
                    refine AllReadyH.cons (o_at HG 4 rfl) ?_ (AllReadyH.cons (o_at HG 12 rfl) ?_ (AllReadyH.nil))
                    · intro K' hK
                      have hc4 : Y1.cell? ⟨gj, 4, none⟩ = some (.slice AR rl cR) := (HCJ2.out Y1 HY1.out).2
                      rw [if_pos (by kernel_rfl)]
                      go_simp
                      clear hc4
                      refine hK.out _ _ trivial (fun _ => ?_)
                      try simp only [Act.put, List.getElem_toArray, List.getElem_cons_zero, List.getElem_cons_succ, List.setIfInBounds_toArray, List.set_cons_zero, List.set_cons_succ]
                      refine wpAnyH_ready (rs := [12]) (by kernel_rfl) (by simp) ?_
                      refine AllReadyH.cons (o_at HG 12 rfl) ?_ (AllReadyH.nil)
                      · intro K' hK
                        rw [if_pos (by kernel_rfl)]
                        go_simp
                        have HY2 := Lib.hid (bel_alloc HY1.out (.cells #[.slice Ab nn cb] 22))
                        have HN2 : Hid (∀ j u, [Value.slice Ab nn cb][j]? = some u → (Y1.alloc (.cells #[.slice Ab nn cb] 22)).cell? ((⟨Y1.heap.size, 0, none⟩ : Addr).add j) = some u) := Lib.hid (fun j u hu => cell_alloc _ _ _ _ _ rfl j u (by simpa using hu))
                        have RB2' := Lib.hid (RBB.out.alloc (.cells #[.slice Ab nn cb] 22))
                        generalize Y1.alloc (.cells #[.slice Ab nn cb] 22) = Y2 at *
                        generalize Y1.heap.size = k40 at *
                        refine hK.out _ _ trivial (fun _ => ?_)
                        try simp only [Act.put, List.getElem_toArray, List.getElem_cons_zero, List.getElem_cons_succ, List.setIfInBounds_toArray, List.set_cons_zero, List.set_cons_succ]
                        refine wpAnyH_ready (rs := [13]) (by kernel_rfl) (by simp) ?_
                        refine AllReadyH.cons (o_at HG 13 rfl) ?_ (AllReadyH.nil)
                        · intro K' hK
                          refine step_app (by kernel_rfl) _ _ 23 rfl 0 22 (.slice none 0 0) 1 24 Try.underlying23 info22 rfl (by decide) (.slice AR rl cR) rl (rowL jr) rfl ?_ (some ⟨k40, 0, none⟩) 1 1 [.slice Ab nn cb] rfl rfl (fun e => by cases e) (fun _ => ⟨_, rfl, HN2.out⟩) (by intro u hu; simp only [List.mem_cons, List.not_mem_nil, or_false] at hu; rcases hu with rfl; rfl) (by unfold maxLen; omega) (by omega) (Nat.zero_le _) ?_
                          · exact own_keep HOWN.out fun j hj => HY2.out.block j (HOWN.out.lt j hj).2
                          intro v3 Y3 ho hg hv
                          have hfin := HFIN.out Y2 Y3 v3 Ab cb HY2.out ho hg hv RB2'.out HAP.out SB.out
                          have hz4 : Y3.frozen? ⟨gj, 4, none⟩ = false := hfin.1
                          have hc4 : Y3.cell? ⟨gj, 4, none⟩ = some (.slice AR rl cR) := hfin.2.1
                          have HEND := Lib.hid hfin.2.2
                          clear ho hg hv hfin
                          refine hK.out _ _ trivial (fun _ => ?_)
                          try simp only [Act.put, List.getElem_toArray, List.getElem_cons_zero, List.getElem_cons_succ, List.setIfInBounds_toArray, List.set_cons_zero, List.set_cons_succ]
                          refine wpAnyH_take (i := 14) (v := ?_) (o_at HG 14 rfl) Gns (by kernel_rfl) (by kernel_rfl) (fun _ _ _ h => h) (Or.inl ⟨(by kernel_rfl), ?_⟩) (by first | trivial | assumption) ?_
                          rotate_left
                          · (intro w hSw; (try dsimp only at hSw); go_simp; try with_reducible rfl)
                          try simp only [Act.put, List.getElem_toArray, List.getElem_cons_zero, List.getElem_cons_succ, List.setIfInBounds_toArray, List.set_cons_zero, List.set_cons_succ]
                          refine wpAnyH_take (i := 15) (v := ?_) (o_at HG 15 rfl) Gns (by kernel_rfl) (by kernel_rfl) (fun _ _ _ h => h) (Or.inl ⟨(by kernel_rfl), ?_⟩) (by first | trivial | assumption) ?_
                          rotate_left
                          · (intro w hSw; (try dsimp only at hSw); go_simp; try with_reducible rfl)
                          try simp only [Act.put, List.getElem_toArray, List.getElem_cons_zero, List.getElem_cons_succ, List.setIfInBounds_toArray, List.set_cons_zero, List.set_cons_succ]
                          refine wpAnyH_ready (rs := [16]) (by kernel_rfl) (by simp) ?_
                          refine AllReadyH.cons (o_at HG 16 rfl) ?_ (AllReadyH.nil)
                          · intro K' hK
                            obtain ⟨Av, cv, hvv⟩ := HEND.out.1
                            subst hvv
                            rw [if_pos (by kernel_rfl)]
                            go_simp
                            clear hz4 hc4
                            refine hK.out _ _ trivial (fun _ => ?_)
                            try simp only [Act.put, List.getElem_toArray, List.getElem_cons_zero, List.getElem_cons_succ, List.setIfInBounds_toArray, List.set_cons_zero, List.set_cons_succ]
                            refine wpAnyH_done (by kernel_rfl) ?_ _
                            obtain ⟨-, c7', st7, jv7⟩ := HEND.out
                            have P7 := Lib.hid (Path.step (J := Only idj) rfl HPB.out st7)
                            have fz5 := frozen_of_row _ _ 5 _ _ jv7.obj
                            have cz5 : (Y3.setCell ⟨gj, 4, none⟩ (.slice Av (rl + 1) cv)).cell? ⟨gj, 5, none⟩ = some (.int .i64 (e1 : Int)) := by rw [cell_of_row _ _ 5 _ _ _ jv7.obj]; rfl
                            have hset := row_set (j := 5) (.int .i64 ((P + 9 + nn : Nat) : Int)) jv7.obj
                            obtain ⟨st8, jv8⟩ := jv7.put (j' := { j with recs := jr ++ [⟨0, B, Ab, cb⟩], endp := P + 9 + nn }) (keeps_set (j := 5) (u := .int .i64 ((P + 9 + nn : Nat) : Int)) (Keeps.refl (fun k => k = gj) _) rfl) hset rfl jv7.sb
                            rw [show ((P + 9 + nn : Nat) : Int) = (P : Int) + 9 + (nn : Int) by omega] at st8 jv8
                            have P8 := Lib.hid (Path.step (J := Only idj) rfl P7.out st8)
                            have c58 : ((Y3.setCell ⟨gj, 4, none⟩ (.slice Av (rl + 1) cv)).setCell ⟨gj, 5, none⟩ (.int .i64 ((P : Int) + 9 + (nn : Int)))).cell? ⟨gj, 5, none⟩ = some (.int .i64 ((P + 9 + nn : Nat) : Int)) := by rw [cell_of_row _ _ 5 _ _ _ jv8.obj]; rfl
                            have H0 : Hid (RdAt false idj gj gd H j w col ((Y3.setCell ⟨gj, 4, none⟩ (.slice Av (rl + 1) cv)).setCell ⟨gj, 5, none⟩ (.int .i64 ((P : Int) + 9 + (nn : Int))))) := Lib.hid ⟨rs ++ [⟨0, B, Ab, cb⟩], P + 9 + nn, c7', P8.out, ⟨_, by rw [← List.append_assoc, ← HJR.out]; exact jv8⟩, by
                              rw [List.map_append]
                              have h1 := Pre.snoc HPRE.out (b := B) (by rw [List.length_map]; exact HN.out)
                              rw [← HPP.out, HBLN.out] at h1
                              exact h1, by rw [← HL.out]; omega, by rw [List.length_append]; have := HCNT.out; simp; omega, fun h => by cases h⟩
                            have HMU0 : Hid (muR gj L 0 ((Y3.setCell ⟨gj, 4, none⟩ (.slice Av (rl + 1) cv)).setCell ⟨gj, 5, none⟩ (.int .i64 ((P : Int) + 9 + (nn : Int)))) < muR gj L 0 wr) := Lib.hid (by
                              rw [HMUW.out]
                              unfold muR endOf
                              rw [c58]
                              simp [intOf]
                              omega)
                            clear hset st8 jv8 c58 st7 jv7 w9 l9 t9 z9 m9 m99 d9
                            go_wp2
                            refine wp_goto ?_
                            exact frame_of _ _ _ rfl (.inl ⟨rfl, H0.out⟩)
                    · intro K' hK
                      rw [if_pos (by kernel_rfl)]
                      go_simp
                      have HY2 := Lib.hid (bel_alloc HY1.out (.cells #[.slice Ab nn cb] 22))
                      have HN2 : Hid (∀ j u, [Value.slice Ab nn cb][j]? = some u → (Y1.alloc (.cells #[.slice Ab nn cb] 22)).cell? ((⟨Y1.heap.size, 0, none⟩ : Addr).add j) = some u) := Lib.hid (fun j u hu => cell_alloc _ _ _ _ _ rfl j u (by simpa using hu))
                      have RB2' := Lib.hid (RBB.out.alloc (.cells #[.slice Ab nn cb] 22))
                      generalize Y1.alloc (.cells #[.slice Ab nn cb] 22) = Y2 at *
                      generalize Y1.heap.size = k40 at *
                      refine hK.out _ _ trivial (fun _ => ?_)
                      try simp only [Act.put, List.getElem_toArray, List.getElem_cons_zero, List.getElem_cons_succ, List.setIfInBounds_toArray, List.set_cons_zero, List.set_cons_succ]
                      refine wpAnyH_ready (rs := [4]) (by kernel_rfl) (by simp) ?_
                      refine AllReadyH.cons (o_at HG 4 rfl) ?_ (AllReadyH.nil)
                      · intro K' hK
                        have hc4 : Y2.cell? ⟨gj, 4, none⟩ = some (.slice AR rl cR) := (HCJ2.out Y2 HY2.out).2
                        rw [if_pos (by kernel_rfl)]
                        go_simp
                        clear hc4
                        refine hK.out _ _ trivial (fun _ => ?_)
                        try simp only [Act.put, List.getElem_toArray, List.getElem_cons_zero, List.getElem_cons_succ, List.setIfInBounds_toArray, List.set_cons_zero, List.set_cons_succ]
                        refine wpAnyH_ready (rs := [13]) (by kernel_rfl) (by simp) ?_
                        refine AllReadyH.cons (o_at HG 13 rfl) ?_ (AllReadyH.nil)
                        · intro K' hK
                          refine step_app (by kernel_rfl) _ _ 23 rfl 0 22 (.slice none 0 0) 1 24 Try.underlying23 info22 rfl (by decide) (.slice AR rl cR) rl (rowL jr) rfl ?_ (some ⟨k40, 0, none⟩) 1 1 [.slice Ab nn cb] rfl rfl (fun e => by cases e) (fun _ => ⟨_, rfl, HN2.out⟩) (by intro u hu; simp only [List.mem_cons, List.not_mem_nil, or_false] at hu; rcases hu with rfl; rfl) (by unfold maxLen; omega) (by omega) (Nat.zero_le _) ?_
                          · exact own_keep HOWN.out fun j hj => HY2.out.block j (HOWN.out.lt j hj).2
                          intro v3 Y3 ho hg hv
                          have hfin := HFIN.out Y2 Y3 v3 Ab cb HY2.out ho hg hv RB2'.out HAP.out SB.out
                          have hz4 : Y3.frozen? ⟨gj, 4, none⟩ = false := hfin.1
                          have hc4 : Y3.cell? ⟨gj, 4, none⟩ = some (.slice AR rl cR) := hfin.2.1
                          have HEND := Lib.hid hfin.2.2
                          clear ho hg hv hfin
                          refine hK.out _ _ trivial (fun _ => ?_)
                          try simp only [Act.put, List.getElem_toArray, List.getElem_cons_zero, List.getElem_cons_succ, List.setIfInBounds_toArray, List.set_cons_zero, List.set_cons_succ]
                          refine wpAnyH_take (i := 14) (v := ?_) (o_at HG 14 rfl) Gns (by kernel_rfl) (by kernel_rfl) (fun _ _ _ h => h) (Or.inl ⟨(by kernel_rfl), ?_⟩) (by first | trivial | assumption) ?_
                          rotate_left
                          · (intro w hSw; (try dsimp only at hSw); go_simp; try with_reducible rfl)
                          try simp only [Act.put, List.getElem_toArray, List.getElem_cons_zero, List.getElem_cons_succ, List.setIfInBounds_toArray, List.set_cons_zero, List.set_cons_succ]
                          refine wpAnyH_take (i := 15) (v := ?_) (o_at HG 15 rfl) Gns (by kernel_rfl) (by kernel_rfl) (fun _ _ _ h => h) (Or.inl ⟨(by kernel_rfl), ?_⟩) (by first | trivial | assumption) ?_
                          rotate_left
                          · (intro w hSw; (try dsimp only at hSw); go_simp; try with_reducible rfl)
                          try simp only [Act.put, List.getElem_toArray, List.getElem_cons_zero, List.getElem_cons_succ, List.setIfInBounds_toArray, List.set_cons_zero, List.set_cons_succ]
                          refine wpAnyH_ready (rs := [16]) (by kernel_rfl) (by simp) ?_
                          refine AllReadyH.cons (o_at HG 16 rfl) ?_ (AllReadyH.nil)
                          · intro K' hK
                            obtain ⟨Av, cv, hvv⟩ := HEND.out.1
                            subst hvv
                            rw [if_pos (by kernel_rfl)]
                            go_simp
                            clear hz4 hc4
                            refine hK.out _ _ trivial (fun _ => ?_)
                            try simp only [Act.put, List.getElem_toArray, List.getElem_cons_zero, List.getElem_cons_succ, List.setIfInBounds_toArray, List.set_cons_zero, List.set_cons_succ]
                            refine wpAnyH_done (by kernel_rfl) ?_ _
                            obtain ⟨-, c7', st7, jv7⟩ := HEND.out
                            have P7 := Lib.hid (Path.step (J := Only idj) rfl HPB.out st7)
                            have fz5 := frozen_of_row _ _ 5 _ _ jv7.obj
                            have cz5 : (Y3.setCell ⟨gj, 4, none⟩ (.slice Av (rl + 1) cv)).cell? ⟨gj, 5, none⟩ = some (.int .i64 (e1 : Int)) := by rw [cell_of_row _ _ 5 _ _ _ jv7.obj]; rfl
                            have hset := row_set (j := 5) (.int .i64 ((P + 9 + nn : Nat) : Int)) jv7.obj
                            obtain ⟨st8, jv8⟩ := jv7.put (j' := { j with recs := jr ++ [⟨0, B, Ab, cb⟩], endp := P + 9 + nn }) (keeps_set (j := 5) (u := .int .i64 ((P + 9 + nn : Nat) : Int)) (Keeps.refl (fun k => k = gj) _) rfl) hset rfl jv7.sb
                            rw [show ((P + 9 + nn : Nat) : Int) = (P : Int) + 9 + (nn : Int) by omega] at st8 jv8
                            have P8 := Lib.hid (Path.step (J := Only idj) rfl P7.out st8)
                            have c58 : ((Y3.setCell ⟨gj, 4, none⟩ (.slice Av (rl + 1) cv)).setCell ⟨gj, 5, none⟩ (.int .i64 ((P : Int) + 9 + (nn : Int)))).cell? ⟨gj, 5, none⟩ = some (.int .i64 ((P + 9 + nn : Nat) : Int)) := by rw [cell_of_row _ _ 5 _ _ _ jv8.obj]; rfl
                            have H0 : Hid (RdAt false idj gj gd H j w col ((Y3.setCell ⟨gj, 4, none⟩ (.slice Av (rl + 1) cv)).setCell ⟨gj, 5, none⟩ (.int .i64 ((P : Int) + 9 + (nn : Int))))) := Lib.hid ⟨rs ++ [⟨0, B, Ab, cb⟩], P + 9 + nn, c7', P8.out, ⟨_, by rw [← List.append_assoc, ← HJR.out]; exact jv8⟩, by
                              rw [List.map_append]
                              have h1 := Pre.snoc HPRE.out (b := B) (by rw [List.length_map]; exact HN.out)
                              rw [← HPP.out, HBLN.out] at h1
                              exact h1, by rw [← HL.out]; omega, by rw [List.length_append]; have := HCNT.out; simp; omega, fun h => by cases h⟩
                            have HMU0 : Hid (muR gj L 0 ((Y3.setCell ⟨gj, 4, none⟩ (.slice Av (rl + 1) cv)).setCell ⟨gj, 5, none⟩ (.int .i64 ((P : Int) + 9 + (nn : Int)))) < muR gj L 0 wr) := Lib.hid (by
                              rw [HMUW.out]
                              unfold muR endOf
                              rw [c58]
                              simp [intOf]
                              omega)
                            clear hset st8 jv8 c58 st7 jv7 w9 l9 t9 z9 m9 m99 d9
                            go_wp2
                            refine wp_goto ?_
                            exact frame_of _ _ _ rfl (.inl ⟨rfl, H0.out⟩)
      · have HN : Hid (recAt H j.number (j.recs.length + 1 + rs.length) e1 = none) := Lib.hid (by
          unfold recAt
          rw [if_neg HB1N.out, if_pos]
          rw [← HPP.out]
          intro h
          exact b2 (by rw [HXB.out, h]; rfl))
        have hb2 : ((xb : Int) != 165) = true := by simp; omega
        have H1 := Lib.hid (HFIN0.out HN.out)
        clear b2
        go_wp2
        refine wp_goto ?_
        exact frame_of _ _ _ rfl (.inr ⟨rfl, H1.out⟩)
  · rintro l a wr ⟨us, rfl, ⟨rfl, hst⟩ | ⟨rfl, hst⟩⟩
    · refine ⟨_, rfl, ?_⟩
      have HST := Lib.hid hst
      clear hst HST0
      obtain ⟨rs, e1, colr, hp, hjat, hpre, hle1, hcnt, -⟩ := HST.out
      obtain ⟨vr0, hjv⟩ := hjat
      obtain ⟨AR, cR, rfl, -, -, -⟩ := own_FL hjv.own
      obtain ⟨jr, hjr⟩ : ∃ r, r = j.recs ++ rs := ⟨_, rfl⟩
      obtain ⟨rl, hrl⟩ : ∃ n, n = jr.length := ⟨_, rfl⟩
      rw [← hjr] at hjv
      have hrlk : rl = k0 + rs.length := by rw [hrl, hjr, List.length_append, HK0.out]
      rw [← hrl] at hjv
      have hrl2 : rl ≤ 3000000 := by have := HL.out; omega
      have he1L : e1 ≤ L := by rw [HL.out]; exact hle1
      have c2 : wr.cell? ⟨gj, 2, none⟩ = some (.int .i64 (num : Int)) := by rw [cell_of_row _ _ 2 _ _ _ hjv.obj, HNM.out]; rfl
      have c4 : wr.cell? ⟨gj, 4, none⟩ = some (.slice AR rl cR) := by rw [cell_of_row _ _ 4 _ _ _ hjv.obj]; rfl
      have c5 : wr.cell? ⟨gj, 5, none⟩ = some (.int .i64 (e1 : Int)) := by rw [cell_of_row _ _ 5 _ _ _ hjv.obj]; rfl
      have HMUW : Hid (muR gj L 0 wr = 1 + (L + 1 - e1)) := Lib.hid (by unfold muR endOf; rw [c5]; simp [intOf])
      have HCJ : Hid (∀ X, Below wr.heap.size wr X → X.cell? ⟨gj, 2, none⟩ = some (.int .i64 (num : Int)) ∧ X.cell? ⟨gj, 4, none⟩ = some (.slice AR rl cR)) := Lib.hid (fun X hX => ⟨(hX.cell (World.block_lt_of_cell? _ _ c2)).trans c2, (hX.cell (World.block_lt_of_cell? _ _ c4)).trans c4⟩)
      have HJV := Lib.hid hjv
      have HP := Lib.hid hp
      have HPRE := Lib.hid hpre
      have HCNT := Lib.hid hcnt
      have HJR := Lib.hid hjr
      have HRL := Lib.hid hrl
      have HRLK := Lib.hid hrlk
      have HRB := Lib.hid (RC.path HRC.out hp HON.out).read
      obtain ⟨P, hP⟩ : ∃ P, P = placeN e1 := ⟨_, rfl⟩
      have hPb := placeN_le e1
      rw [← hP] at hPb
      obtain ⟨hP1, hP2, -⟩ := hPb
      have HPP := Lib.hid hP
      have HPL : Hid (∀ X, Calls Try.prog 53 #[.int .i64 (e1 : Int)] X fun e w' => e = .returned (.int .i64 (P : Int)) ∧ X = w') := Lib.hid (fun X => by rw [hP]; exact place_any e1 X (by omega))
      have HJAT : Hid (JAt wr colr idj gj gd { j with recs := j.recs ++ rs, endp := e1 }) := Lib.hid ⟨_, by have := hjv; rw [hjr, hrl, hjr] at this; exact this⟩
      have HFIN0 : Hid (recAt H j.number (j.recs.length + 1 + rs.length) e1 = none → RdAt true idj gj gd H j w col wr) := Lib.hid (fun h => ⟨rs, e1, colr, HP.out, HJAT.out, HPRE.out, hle1, HCNT.out, fun _ => h⟩)
      have HMU1 : muR gj L 1 wr < muR gj L 0 wr := by rw [HMUW.out]; unfold muR; rw [if_pos rfl]; omega
      have HMU1H := Lib.hid HMU1
      clear hp hjv hpre hcnt hjr hrl hrlk hP c2 c4 HMU1
      go_wp2_with fail
      refine (HPL.out _).mono ?_
      rintro e w' ⟨rfl, rfl⟩
      by_cases b1 : L < P + 9
      · have HN : Hid (recAt H j.number (j.recs.length + 1 + rs.length) e1 = none) := Lib.hid (by unfold recAt; rw [if_pos (by rw [← HPP.out, ← HL.out]; exact b1)])
        have hb1 : (L : Int) < (P : Int) + 9 := by omega
        have H1 := Lib.hid (HFIN0.out HN.out)
        clear b1
        go_wp2
        refine wp_goto ?_
        exact ⟨frame_of _ _ _ rfl (.inr ⟨rfl, H1.out⟩), HMU1H.out⟩
      · have hb1 : ¬ (L : Int) < (P : Int) + 9 := by omega
        have hPL : P + 9 ≤ L := by omega
        have HB1N : Hid (¬ H.length < placeN e1 + 9) := Lib.hid (by rw [← HPP.out, ← HL.out]; exact b1)
        obtain ⟨_, e0, c8⟩ := HRB.out.at_ (P + 8) (by rw [← HL.out]; omega)
        cases e0
        rw [add0] at c8
        obtain ⟨xb, hxb⟩ : ∃ x, x = (H.getD (P + 8) 0).toNat := ⟨_, rfl⟩
        rw [← hxb] at c8
        have HXB := Lib.hid hxb
        clear b1 hxb
        by_cases b2 : xb = 165
        · have HB2N : Hid (¬ H.getD (placeN e1 + 8) 0 ≠ 165) := Lib.hid (by
            rw [← HPP.out]
            intro h
            apply h
            apply UInt8.toNat_inj.1
            rw [← HXB.out, b2]
            rfl)
          subst b2
          obtain ⟨xl, hxl⟩ : ∃ x, x = recLen H e1 := ⟨_, rfl⟩
          have hxlb : xl < 4294967296 := by
            rw [hxl]
            unfold recLen
            have := getN_lt ((H.drop (placeN e1 + 4)).take 4)
            rw [cut_len (by rw [← HPP.out, ← HL.out]; omega)] at this
            omega
          have HGET : Hid (Calls Try.prog 68 #[.slice (some ⟨g, P + 4, none⟩) 4 (c - (P + 4))] wr fun e w' => e = .returned (.int .i64 (xl : Int)) ∧ wr = w') := Lib.hid (by
            have h1 := get_any (some ⟨g, P + 4, none⟩) (c - (P + 4)) _ wr (cut_at HRB.out (P + 4) 4 (by rw [← HL.out]; omega)) (by rw [cut_len (by rw [← HL.out]; omega)]; omega)
            rw [cut_len (by rw [← HL.out]; omega)] at h1
            rw [hxl]
            unfold recLen
            rw [← HPP.out]
            exact h1)
          have HXL := Lib.hid hxl
          clear hxl
          by_cases hx0 : xl = 0
          · have HN : Hid (recAt H j.number (j.recs.length + 1 + rs.length) e1 = none) := Lib.hid (by unfold recAt; rw [if_neg HB1N.out, if_neg HB2N.out, if_pos (.inl (by rw [← HXL.out]; exact hx0))])
            have H1 := Lib.hid (HFIN0.out HN.out)
            subst hx0
            go_wp2_with fail
            refine HGET.out.mono ?_
            rintro e w' ⟨rfl, rfl⟩
            go_wp2
            refine wp_goto ?_
            exact ⟨frame_of _ _ _ rfl (.inr ⟨rfl, H1.out⟩), HMU1H.out⟩
          · obtain ⟨nn, rfl⟩ : ∃ nn, xl = nn + 1 := ⟨xl - 1, by omega⟩
            have hget := HGET.out
            rw [show ((nn + 1 : Nat) : Int) = (nn : Int) + 1 by omega] at hget
            have HGET2 := Lib.hid hget
            have HNN : Hid (recLen H e1 - 1 = nn) := Lib.hid (by rw [← HXL.out]; rfl)
            have HNZ : Hid (¬ recLen H e1 = 0) := Lib.hid (by rw [← HXL.out]; omega)
            clear hx0 hget HGET
            go_wp2_with fail
            refine HGET2.out.mono ?_
            rintro e w' ⟨rfl, rfl⟩
            by_cases b3 : 60000 < nn
            · have HN : Hid (recAt H j.number (j.recs.length + 1 + rs.length) e1 = none) := Lib.hid (by unfold recAt; rw [if_neg HB1N.out, if_neg HB2N.out, if_pos (.inr (.inl (by rw [HNN.out]; exact b3)))])
              have H1 := Lib.hid (HFIN0.out HN.out)
              have hb3 : (60000 : Int) < (nn : Int) := by omega
              clear b3
              go_wp2
              refine wp_goto ?_
              exact ⟨frame_of _ _ _ rfl (.inr ⟨rfl, H1.out⟩), HMU1H.out⟩
            · have hb3 : ¬ (60000 : Int) < (nn : Int) := by omega
              by_cases b4 : L < P + 9 + nn
              · have HN : Hid (recAt H j.number (j.recs.length + 1 + rs.length) e1 = none) := Lib.hid (by unfold recAt; rw [if_neg HB1N.out, if_neg HB2N.out, if_pos (.inr (.inr (by rw [HNN.out, ← HPP.out, ← HL.out]; omega)))])
                have H1 := Lib.hid (HFIN0.out HN.out)
                have hb4 : (L : Int) - ((P : Int) + 9) < (nn : Int) := by omega
                clear b3 b4
                go_wp2
                refine wp_goto ?_
                exact ⟨frame_of _ _ _ rfl (.inr ⟨rfl, H1.out⟩), HMU1H.out⟩
              · have hb4 : ¬ (L : Int) - ((P : Int) + 9) < (nn : Int) := by omega
                have HB3N : Hid (¬ (recLen H e1 = 0 ∨ 60000 < recLen H e1 - 1 ∨ H.length - (placeN e1 + 9) < recLen H e1 - 1)) := Lib.hid (by
                  rw [HNN.out, ← HPP.out, ← HL.out]
                  rintro (h | h | h)
                  · exact HNZ.out h
                  · omega
                  · omega)
                have hfit : P + 9 + nn ≤ L := by omega
                have hnn6 : nn ≤ 60000 := by omega
                obtain ⟨B, hB⟩ : ∃ B, B = (H.drop (P + 9)).take nn := ⟨_, rfl⟩
                have hBl : B.length = nn := by rw [hB]; exact cut_len (by rw [← HL.out]; omega)
                obtain ⟨a9, ha9⟩ : ∃ a, (if c = P + 9 then some ⟨g, 0, none⟩ else some ⟨g, P + 9, none⟩ : Option Addr) = some a := by split <;> exact ⟨_, rfl⟩
                have hrb9 : ∀ X, RB X (some ⟨g, 0, none⟩) H → RB X (some a9) B := fun X hX => by
                  rw [hB]
                  refine hX.cut (P + 9) nn (by rw [← HL.out]; omega) (fun hp ad e => ?_)
                  cases e
                  rw [← ha9, if_neg (by omega), add0]
                have n1 : ¬ c = P := by omega
                obtain ⟨Q4, hQ4⟩ : ∃ Q, Q = P + 4 := ⟨_, rfl⟩
                obtain ⟨Q9, hQ9⟩ : ∃ Q, Q = P + 9 + nn := ⟨_, rfl⟩
                have w4 : IntKind.i64.wrap ((P : Int) + 4) = (Q4 : Int) := by rw [IntWalk.i64_in _ (by omega)]; omega
                have l4 : Q4 ≤ c := by omega
                have p4 : P ≤ Q4 := by omega
                have d4 : Q4 - P = 4 := by omega
                have w9 : IntKind.i64.wrap ((P : Int) + 9 + (nn : Int)) = (Q9 : Int) := by rw [IntWalk.i64_in _ (by omega)]; omega
                have l9 : Q9 ≤ c := by omega
                have t9 : ((P : Int) + 9).toNat = P + 9 := by omega
                have z9 : (0 : Int) ≤ (P : Int) + 9 := by omega
                have m9 : (P : Int) + 9 ≤ (Q9 : Int) := by omega
                have m99 : (P : Int) + 9 ≤ max (Q9 : Int) 0 := by omega
                have d9 : Q9 - (P + 9) = nn := by omega
                have wk : IntKind.i64.wrap ((rl : Int) + 1) = (rl : Int) + 1 := IntWalk.i64_in _ (by omega)
                clear hQ4 hQ9
                have HSUM : Hid (∀ X, Below wr.heap.size wr X → Calls Try.prog 48 #[.pointer (some ⟨gj, 0, none⟩), .int .i64 (num : Int), .int .i64 ((rl : Int) + 1), .slice (some a9) nn (c - (P + 9))] X (NewB X 4 (sumN num (rl + 1) B))) := Lib.hid (fun X hX => by
                  have h1 := sumj_any (.pointer (some ⟨gj, 0, none⟩)) num (rl + 1) (some a9) (c - (P + 9)) B X (hrb9 X (HRB.out.below hX)) ⟨by rw [hBl]; omega, fun e => by cases e⟩ hnum (by omega)
                  rw [hBl] at h1
                  exact h1)
                have HEQ : Hid (∀ X A2 c2, Below wr.heap.size wr X → RB X A2 (sumN num (rl + 1) B) → Calls Try.prog 69 #[.slice (some ⟨g, P, none⟩) 4 (c - P), .slice A2 4 c2] X fun e w' => e = .returned (.bool (decide ((H.drop P).take 4 = sumN num (rl + 1) B))) ∧ Below X.heap.size X w') := Lib.hid (fun X A2 c2 hX hr2 => by
                  have h1 := equal_any (some ⟨g, P, none⟩) A2 (c - P) c2 _ _ X (cut_at (HRB.out.below hX) P 4 (by rw [← HL.out]; omega)) hr2
                  rw [sumN_length, cut_len (by rw [← HL.out]; omega)] at h1
                  exact h1)
                have HBE : Hid (B = (H.drop (placeN e1 + 9)).take (recLen H e1 - 1)) := Lib.hid (by rw [hB, HPP.out, HNN.out])
                have HR9 := Lib.hid hrb9
                have HBLN := Lib.hid hBl
                have HIDX : Hid (j.recs.length + 1 + rs.length = rl + 1) := Lib.hid (by have := HRLK.out; have := HK0.out; omega)
                clear b3 b4 hB hBl hrb9 c5
                go_upto_region 6 with fail
                go_cut [72] (fun s72 wx => s72 = .bool (!(decide ((H.drop P).take 4 = sumN num (rl + 1) B))) ∧ Hid (Below wr.heap.size wr wx))
                case first =>
                  have HBV := Lib.hid (bel_drew (Below.refl wr.heap.size wr))
                  obtain ⟨s2, s4⟩ := HCJ.out wr.drew HBV.out
                  refine region_const (G := G45a) (S := fun X => X.cell? ⟨gj, 2, none⟩ = some (.int .i64 (num : Int)) ∧ X.cell? ⟨gj, 4, none⟩ = some (.slice AR rl cR)) (n := 25) (by kernel_rfl) (by kernel_rfl) rfl ⟨s2, s4⟩ (fun HG hS0 => ?_)
                  have Gns := Gns45a
                  clear s2 s4
                  generalize wr.drew = V at *
                  simp only [Array.replicate_succ, Array.replicate_zero, List.push_toArray, List.nil_append, List.cons_append]
                  refine wpAnyH_take (i := 0) (v := ?_) (o_at HG 0 rfl) Gns (by kernel_rfl) (by kernel_rfl) (fun _ _ _ h => h) (Or.inl ⟨(by kernel_rfl), ?_⟩) (by first | trivial | assumption) ?_
                  rotate_left
                  · (intro w hSw; (try dsimp only at hSw); go_simp; try with_reducible rfl)
                  try simp only [Act.put, List.getElem_toArray, List.getElem_cons_zero, List.getElem_cons_succ, List.setIfInBounds_toArray, List.set_cons_zero, List.set_cons_succ]
                  refine wpAnyH_take (i := 1) (v := ?_) (o_at HG 1 rfl) Gns (by kernel_rfl) (by kernel_rfl) (fun _ _ _ h => h) (Or.inl ⟨(by kernel_rfl), ?_⟩) (by first | trivial | assumption) ?_
                  rotate_left
                  · (intro w hSw; (try dsimp only at hSw); go_simp; try with_reducible rfl)
                  try simp only [Act.put, List.getElem_toArray, List.getElem_cons_zero, List.getElem_cons_succ, List.setIfInBounds_toArray, List.set_cons_zero, List.set_cons_succ]
                  refine wpAnyH_take (i := 2) (v := ?_) (o_at HG 2 rfl) Gns (by kernel_rfl) (by kernel_rfl) (fun _ _ _ h => h) (Or.inl ⟨(by kernel_rfl), ?_⟩) (by first | trivial | assumption) ?_
                  rotate_left
                  · (intro w hSw; (try dsimp only at hSw); go_simp; try with_reducible rfl)
                  try simp only [Act.put, List.getElem_toArray, List.getElem_cons_zero, List.getElem_cons_succ, List.setIfInBounds_toArray, List.set_cons_zero, List.set_cons_succ]
                  refine wpAnyH_take (i := 3) (v := ?_) (o_at HG 3 rfl) Gns (by kernel_rfl) (by kernel_rfl) (fun _ _ _ h => h) (Or.inl ⟨(by kernel_rfl), ?_⟩) (by first | trivial | assumption) ?_
                  rotate_left
                  · (intro w hSw; (try dsimp only at hSw); go_simp; try with_reducible rfl)
                  try simp only [Act.put, List.getElem_toArray, List.getElem_cons_zero, List.getElem_cons_succ, List.setIfInBounds_toArray, List.set_cons_zero, List.set_cons_succ]
                  refine wpAnyH_take (i := 4) (v := ?_) (o_at HG 4 rfl) Gns (by kernel_rfl) (by kernel_rfl) (fun _ _ _ h => h) (Or.inl ⟨(by kernel_rfl), ?_⟩) (by first | trivial | assumption) ?_
                  rotate_left
                  · (intro w hSw; (try dsimp only at hSw); go_simp; try with_reducible rfl)
                  try simp only [Act.put, List.getElem_toArray, List.getElem_cons_zero, List.getElem_cons_succ, List.setIfInBounds_toArray, List.set_cons_zero, List.set_cons_succ]
                  refine wpAnyH_take (i := 5) (v := ?_) (o_at HG 5 rfl) Gns (by kernel_rfl) (by kernel_rfl) (fun _ _ _ h => h) (Or.inl ⟨(by kernel_rfl), ?_⟩) (by first | trivial | assumption) ?_
                  rotate_left
                  · (intro w hSw; (try dsimp only at hSw); go_simp; try with_reducible rfl)
                  try simp only [Act.put, List.getElem_toArray, List.getElem_cons_zero, List.getElem_cons_succ, List.setIfInBounds_toArray, List.set_cons_zero, List.set_cons_succ]
                  refine wpAnyH_take (i := 6) (v := ?_) (o_at HG 6 rfl) Gns (by kernel_rfl) (by kernel_rfl) (fun _ _ _ h => h) (Or.inl ⟨(by kernel_rfl), ?_⟩) (by first | trivial | assumption) ?_
                  rotate_left
                  · (intro w hSw; (try dsimp only at hSw); go_simp; try with_reducible rfl)
                  try simp only [Act.put, List.getElem_toArray, List.getElem_cons_zero, List.getElem_cons_succ, List.setIfInBounds_toArray, List.set_cons_zero, List.set_cons_succ]
                  refine wpAnyH_take (i := 7) (v := ?_) (o_at HG 7 rfl) Gns (by kernel_rfl) (by kernel_rfl) (fun _ _ _ h => h) (Or.inl ⟨(by kernel_rfl), ?_⟩) (by first | trivial | assumption) ?_
                  rotate_left
                  · (intro w hSw; (try dsimp only at hSw); go_simp; try with_reducible rfl)
                  try simp only [Act.put, List.getElem_toArray, List.getElem_cons_zero, List.getElem_cons_succ, List.setIfInBounds_toArray, List.set_cons_zero, List.set_cons_succ]
                  refine wpAnyH_take (i := 8) (v := ?_) (o_at HG 8 rfl) Gns (by kernel_rfl) (by kernel_rfl) (fun _ _ _ h => h) (Or.inl ⟨(by kernel_rfl), ?_⟩) (by first | trivial | assumption) ?_
                  rotate_left
                  · (intro w hSw; (try dsimp only at hSw); go_simp; try with_reducible rfl)
                  try simp only [Act.put, List.getElem_toArray, List.getElem_cons_zero, List.getElem_cons_succ, List.setIfInBounds_toArray, List.set_cons_zero, List.set_cons_succ]
                  refine wpAnyH_take (i := 9) (v := ?_) (o_at HG 9 rfl) Gns (by kernel_rfl) (by kernel_rfl) (fun _ _ _ h => h) (Or.inl ⟨(by kernel_rfl), ?_⟩) (by first | trivial | assumption) ?_
                  rotate_left
                  · (intro w hSw; (try dsimp only at hSw); go_simp; try with_reducible rfl)
                  try simp only [Act.put, List.getElem_toArray, List.getElem_cons_zero, List.getElem_cons_succ, List.setIfInBounds_toArray, List.set_cons_zero, List.set_cons_succ]
                  refine wpAnyH_take (i := 10) (v := ?_) (o_at HG 10 rfl) Gns (by kernel_rfl) (by kernel_rfl) (fun _ _ _ h => h) (Or.inl ⟨(by kernel_rfl), ?_⟩) (by first | trivial | assumption) ?_
                  rotate_left
                  · (intro w hSw; (try dsimp only at hSw); go_simp; try with_reducible rfl)
                  try simp only [Act.put, List.getElem_toArray, List.getElem_cons_zero, List.getElem_cons_succ, List.setIfInBounds_toArray, List.set_cons_zero, List.set_cons_succ]
                  refine wpAnyH_take (i := 11) (v := ?_) (o_at HG 11 rfl) Gns (by kernel_rfl) (by kernel_rfl) (fun _ _ _ h => h) (Or.inl ⟨(by kernel_rfl), ?_⟩) (by first | trivial | assumption) ?_
                  rotate_left
                  · (intro w hSw; (try dsimp only at hSw); go_simp; try with_reducible rfl)
                  try simp only [Act.put, List.getElem_toArray, List.getElem_cons_zero, List.getElem_cons_succ, List.setIfInBounds_toArray, List.set_cons_zero, List.set_cons_succ]
                  refine wpAnyH_take (i := 12) (v := ?_) (o_at HG 12 rfl) Gns (by kernel_rfl) (by kernel_rfl) (fun _ _ _ h => h) (Or.inl ⟨(by kernel_rfl), ?_⟩) (by first | trivial | assumption) ?_
                  rotate_left
                  · (intro w hSw; (try dsimp only at hSw); go_simp; try with_reducible rfl)
                  try simp only [Act.put, List.getElem_toArray, List.getElem_cons_zero, List.getElem_cons_succ, List.setIfInBounds_toArray, List.set_cons_zero, List.set_cons_succ]
                  refine wpAnyH_take (i := 13) (v := ?_) (o_at HG 13 rfl) Gns (by kernel_rfl) (by kernel_rfl) (fun _ _ _ h => h) (Or.inl ⟨(by kernel_rfl), ?_⟩) (by first | trivial | assumption) ?_
                  rotate_left
                  · (intro w hSw; (try dsimp only at hSw); go_simp; try with_reducible rfl)
                  try simp only [Act.put, List.getElem_toArray, List.getElem_cons_zero, List.getElem_cons_succ, List.setIfInBounds_toArray, List.set_cons_zero, List.set_cons_succ]
                  refine wpAnyH_take (i := 14) (v := ?_) (o_at HG 14 rfl) Gns (by kernel_rfl) (by kernel_rfl) (fun _ _ _ h => h) (Or.inl ⟨(by kernel_rfl), ?_⟩) (by first | trivial | assumption) ?_
                  rotate_left
                  · (intro w hSw; (try dsimp only at hSw); go_simp; try with_reducible rfl)
                  try simp only [Act.put, List.getElem_toArray, List.getElem_cons_zero, List.getElem_cons_succ, List.setIfInBounds_toArray, List.set_cons_zero, List.set_cons_succ]
                  refine wpAnyH_take (i := 15) (v := ?_) (o_at HG 15 rfl) Gns (by kernel_rfl) (by kernel_rfl) (fun _ _ _ h => h) (Or.inl ⟨(by kernel_rfl), ?_⟩) (by first | trivial | assumption) ?_
                  rotate_left
                  · (intro w hSw; (try dsimp only at hSw); go_simp; try with_reducible rfl)
                  try simp only [Act.put, List.getElem_toArray, List.getElem_cons_zero, List.getElem_cons_succ, List.setIfInBounds_toArray, List.set_cons_zero, List.set_cons_succ]
                  refine wpAnyH_take (i := 16) (v := ?_) (o_at HG 16 rfl) Gns (by kernel_rfl) (by kernel_rfl) (fun _ _ _ h => h) (Or.inl ⟨(by kernel_rfl), ?_⟩) (by first | trivial | assumption) ?_
                  rotate_left
                  · (intro w hSw; (try dsimp only at hSw); go_simp; try with_reducible rfl)
                  try simp only [Act.put, List.getElem_toArray, List.getElem_cons_zero, List.getElem_cons_succ, List.setIfInBounds_toArray, List.set_cons_zero, List.set_cons_succ]
                  refine wpAnyH_take (i := 17) (v := ?_) (o_at HG 17 rfl) Gns (by kernel_rfl) (by kernel_rfl) (fun _ _ _ h => h) (Or.inl ⟨(by kernel_rfl), ?_⟩) (by first | trivial | assumption) ?_
                  rotate_left
                  · (intro w hSw; (try dsimp only at hSw); go_simp; try with_reducible rfl)
                  try simp only [Act.put, List.getElem_toArray, List.getElem_cons_zero, List.getElem_cons_succ, List.setIfInBounds_toArray, List.set_cons_zero, List.set_cons_succ]
                  refine wpAnyH_take (i := 18) (v := ?_) (o_at HG 18 rfl) Gns (by kernel_rfl) (by kernel_rfl) (fun _ _ _ h => h) (Or.inl ⟨(by kernel_rfl), ?_⟩) (by first | trivial | assumption) ?_
                  rotate_left
                  · (intro w hSw; (try dsimp only at hSw); go_simp; try with_reducible rfl)
                  try simp only [Act.put, List.getElem_toArray, List.getElem_cons_zero, List.getElem_cons_succ, List.setIfInBounds_toArray, List.set_cons_zero, List.set_cons_succ]
                  refine wpAnyH_take (i := 19) (v := ?_) (o_at HG 19 rfl) Gns (by kernel_rfl) (by kernel_rfl) (fun _ _ _ h => h) (Or.inl ⟨(by kernel_rfl), ?_⟩) (by first | trivial | assumption) ?_
                  rotate_left
                  · (intro w hSw; (try dsimp only at hSw); go_simp; try with_reducible rfl)
                  try simp only [Act.put, List.getElem_toArray, List.getElem_cons_zero, List.getElem_cons_succ, List.setIfInBounds_toArray, List.set_cons_zero, List.set_cons_succ]
                  refine wpAnyH_take (i := 20) (v := ?_) (o_at HG 20 rfl) Gns (by kernel_rfl) (by kernel_rfl) (fun _ _ _ h => h) (Or.inl ⟨(by kernel_rfl), ?_⟩) (by first | trivial | assumption) ?_
                  rotate_left
                  · (intro w hSw; (try dsimp only at hSw); go_simp; try with_reducible rfl)
                  try simp only [Act.put, List.getElem_toArray, List.getElem_cons_zero, List.getElem_cons_succ, List.setIfInBounds_toArray, List.set_cons_zero, List.set_cons_succ]
                  refine wpAnyH_take (i := 21) (v := ?_) (o_at HG 21 rfl) Gns (by kernel_rfl) (by kernel_rfl) (fun _ _ _ h => h) (Or.inl ⟨(by kernel_rfl), ?_⟩) (by first | trivial | assumption) ?_
                  rotate_left
                  · (intro w hSw; (try dsimp only at hSw); go_simp; try with_reducible rfl)
                  try simp only [Act.put, List.getElem_toArray, List.getElem_cons_zero, List.getElem_cons_succ, List.setIfInBounds_toArray, List.set_cons_zero, List.set_cons_succ]
                  refine wpAnyH_ready (rs := [22]) (by kernel_rfl) (by simp) ?_
                  refine AllReadyH.cons (o_at HG 22 rfl) ?_ (AllReadyH.nil)
                  · intro K' hK
                    rw [if_pos (by kernel_rfl)]
                    go_simp
                    (with_reducible refine (HSUM.out V HBV.out).mono ?_)
                    rintro e X1 ⟨A2, c2, rfl, -, rb2, -, hb2⟩
                    have HB1 := Lib.hid (bel_then HBV.out hb2)
                    have RB2 := Lib.hid rb2
                    obtain ⟨s2, s4⟩ := HCJ.out X1 HB1.out
                    refine hK.out _ _ ⟨s2, s4⟩ (fun hS1 => ?_)
                    clear hb2 rb2 s2 s4
                    try simp only [Act.put, List.getElem_toArray, List.getElem_cons_zero, List.getElem_cons_succ, List.setIfInBounds_toArray, List.set_cons_zero, List.set_cons_succ]
                    refine wpAnyH_ready (rs := [23]) (by kernel_rfl) (by simp) ?_
                    refine AllReadyH.cons (o_at HG 23 rfl) ?_ (AllReadyH.nil)
                    · intro K' hK
                      rw [if_pos (by kernel_rfl)]
                      go_simp
                      (with_reducible refine (HEQ.out X1 A2 c2 HB1.out RB2.out).mono ?_)
                      rintro e X2 ⟨rfl, hb3⟩
                      have HB2 := Lib.hid (bel_then HB1.out hb3)
                      obtain ⟨s2, s4⟩ := HCJ.out X2 HB2.out
                      refine hK.out _ _ ⟨s2, s4⟩ (fun hS2 => ?_)
                      clear hb3 s2 s4
                      try simp only [Act.put, List.getElem_toArray, List.getElem_cons_zero, List.getElem_cons_succ, List.setIfInBounds_toArray, List.set_cons_zero, List.set_cons_succ]
                      refine wpAnyH_take (i := 24) (v := ?_) (o_at HG 24 rfl) Gns (by kernel_rfl) (by kernel_rfl) (fun _ _ _ h => h) (Or.inl ⟨(by kernel_rfl), ?_⟩) (by first | trivial | assumption) ?_
                      rotate_left
                      · (intro w hSw; (try dsimp only at hSw); go_simp; try with_reducible rfl)
                      try simp only [Act.put, List.getElem_toArray, List.getElem_cons_zero, List.getElem_cons_succ, List.setIfInBounds_toArray, List.set_cons_zero, List.set_cons_succ]
                      refine wpAnyH_done (by kernel_rfl) ?_ _
                      go_wp2
                      go_meet
                      exact ⟨rfl, HB2⟩
                case rest =>
                  obtain ⟨rfl, HBW⟩ := hcut
                  clear w4 l4 p4 d4 wk n1
                  cases hq : decide ((H.drop P).take 4 = sumN num (rl + 1) B) with
                  | false =>
                    have HN : Hid (recAt H j.number (j.recs.length + 1 + rs.length) e1 = none) := Lib.hid (by
                      unfold recAt
                      rw [if_neg HB1N.out, if_neg HB2N.out, if_neg HB3N.out, if_pos]
                      rw [← HBE.out, HIDX.out, ← HPP.out, ← HNM.out]
                      exact of_decide_eq_false hq)
                    clear hq
                    have H1 := Lib.hid ((HFIN0.out HN.out).grow HBW.out)
                    have HMU1H : Hid (muR gj L 1 wc < muR gj L 0 wr) := Lib.hid (by rw [HMUW.out]; unfold muR; rw [if_pos rfl]; omega)
                    go_wp2
                    refine wp_goto ?_
                    exact ⟨frame_of _ _ _ rfl (.inr ⟨rfl, H1.out⟩), HMU1H.out⟩
                  | true =>
                    have HN : Hid (recAt H j.number (j.recs.length + 1 + rs.length) e1 = some B) := Lib.hid (by
                      unfold recAt
                      rw [if_neg HB1N.out, if_neg HB2N.out, if_neg HB3N.out, ← HBE.out, if_neg]
                      rw [HIDX.out, ← HPP.out, ← HNM.out]
                      exact fun h => h (of_decide_eq_true hq))
                    clear hq
                    go_upto_region 7 with fail
                    obtain ⟨wb, hwb⟩ : ∃ W, W = wc := ⟨_, rfl⟩
                    have HBW' : Hid (Below wr.heap.size wr wb) := Lib.hid (by rw [hwb]; exact HBW.out)
                    rw [← hwb]
                    clear hwb HBW
                    have jvb := HJV.out.grow HBW'.out (fun _ => 0)
                    have HJVB := Lib.hid jvb
                    have HPB := Lib.hid (HP.out.grow HBW'.out)
                    have HOWN := Lib.hid jvb.own
                    have HFIN := Lib.hid (j_fin jvb nn B HBLN.out)
                    have HCJ2 : Hid (∀ X, Below wb.heap.size wb X → X.cell? ⟨gj, 2, none⟩ = some (.int .i64 (num : Int)) ∧ X.cell? ⟨gj, 4, none⟩ = some (.slice AR rl cR)) := Lib.hid (fun X hX => HCJ.out X (bel_then HBW'.out hX))
                    have HCLN : Hid (∀ X, Below wb.heap.size wb X → Calls Try.prog 44 #[.slice (some a9) nn (c - (P + 9))] X (CloneP B X)) := Lib.hid (fun X hX => clone_at (some a9) (c - (P + 9)) nn B X HBLN.out.symm (HR9.out X (HRB.out.below (bel_then HBW'.out hX))) ⟨by rw [HBLN.out]; omega, fun e => by cases e⟩ (by rw [HBLN.out]; omega))
                    clear jvb
                    simp only [← HRL.out] at HOWN HFIN
                    have HY0 := Lib.hid (bel_drew (Below.refl wb.heap.size wb))
                    refine region_const (G := G45b) (S := fun _ => True) (n := 17) (by kernel_rfl) (by kernel_rfl) rfl trivial (fun HG _ => ?_)
                    have Gns := Gns45b
                    generalize wb.drew = Y0 at *
                    simp only [Array.replicate_succ, Array.replicate_zero, List.push_toArray, List.nil_append, List.cons_append]
                    refine wpAnyH_take (i := 0) (v := ?_) (o_at HG 0 rfl) Gns (by kernel_rfl) (by kernel_rfl) (fun _ _ _ h => h) (Or.inl ⟨(by kernel_rfl), ?_⟩) (by first | trivial | assumption) ?_
                    rotate_left
                    · (intro w hSw; (try dsimp only at hSw); go_simp; try with_reducible rfl)
                    try simp only [Act.put, List.getElem_toArray, List.getElem_cons_zero, List.getElem_cons_succ, List.setIfInBounds_toArray, List.set_cons_zero, List.set_cons_succ]
                    refine wpAnyH_take (i := 1) (v := ?_) (o_at HG 1 rfl) Gns (by kernel_rfl) (by kernel_rfl) (fun _ _ _ h => h) (Or.inl ⟨(by kernel_rfl), ?_⟩) (by first | trivial | assumption) ?_
                    rotate_left
                    · (intro w hSw; (try dsimp only at hSw); go_simp; try with_reducible rfl)
                    try simp only [Act.put, List.getElem_toArray, List.getElem_cons_zero, List.getElem_cons_succ, List.setIfInBounds_toArray, List.set_cons_zero, List.set_cons_succ]
                    refine wpAnyH_take (i := 2) (v := ?_) (o_at HG 2 rfl) Gns (by kernel_rfl) (by kernel_rfl) (fun _ _ _ h => h) (Or.inl ⟨(by kernel_rfl), ?_⟩) (by first | trivial | assumption) ?_
                    rotate_left
                    · (intro w hSw; (try dsimp only at hSw); go_simp; try with_reducible rfl)
                    try simp only [Act.put, List.getElem_toArray, List.getElem_cons_zero, List.getElem_cons_succ, List.setIfInBounds_toArray, List.set_cons_zero, List.set_cons_succ]
                    refine wpAnyH_take (i := 3) (v := ?_) (o_at HG 3 rfl) Gns (by kernel_rfl) (by kernel_rfl) (fun _ _ _ h => h) (Or.inl ⟨(by kernel_rfl), ?_⟩) (by first | trivial | assumption) ?_
                    rotate_left
                    · (intro w hSw; (try dsimp only at hSw); go_simp; try with_reducible rfl)
                    try simp only [Act.put, List.getElem_toArray, List.getElem_cons_zero, List.getElem_cons_succ, List.setIfInBounds_toArray, List.set_cons_zero, List.set_cons_succ]
                    refine wpAnyH_take (i := 5) (v := ?_) (o_at HG 5 rfl) Gns (by kernel_rfl) (by kernel_rfl) (fun _ _ _ h => h) (Or.inl ⟨(by kernel_rfl), ?_⟩) (by first | trivial | assumption) ?_
                    rotate_left
                    · (intro w hSw; (try dsimp only at hSw); go_simp; try with_reducible rfl)
                    try simp only [Act.put, List.getElem_toArray, List.getElem_cons_zero, List.getElem_cons_succ, List.setIfInBounds_toArray, List.set_cons_zero, List.set_cons_succ]
                    refine wpAnyH_take (i := 6) (v := ?_) (o_at HG 6 rfl) Gns (by kernel_rfl) (by kernel_rfl) (fun _ _ _ h => h) (Or.inl ⟨(by kernel_rfl), ?_⟩) (by first | trivial | assumption) ?_
                    rotate_left
                    · (intro w hSw; (try dsimp only at hSw); go_simp; try with_reducible rfl)
                    try simp only [Act.put, List.getElem_toArray, List.getElem_cons_zero, List.getElem_cons_succ, List.setIfInBounds_toArray, List.set_cons_zero, List.set_cons_succ]
                    refine wpAnyH_take (i := 7) (v := ?_) (o_at HG 7 rfl) Gns (by kernel_rfl) (by kernel_rfl) (fun _ _ _ h => h) (Or.inl ⟨(by kernel_rfl), ?_⟩) (by first | trivial | assumption) ?_
                    rotate_left
                    · (intro w hSw; (try dsimp only at hSw); go_simp; try with_reducible rfl)
                    try simp only [Act.put, List.getElem_toArray, List.getElem_cons_zero, List.getElem_cons_succ, List.setIfInBounds_toArray, List.set_cons_zero, List.set_cons_succ]
                    refine wpAnyH_take (i := 8) (v := ?_) (o_at HG 8 rfl) Gns (by kernel_rfl) (by kernel_rfl) (fun _ _ _ h => h) (Or.inl ⟨(by kernel_rfl), ?_⟩) (by first | trivial | assumption) ?_
                    rotate_left
                    · (intro w hSw; (try dsimp only at hSw); go_simp; try with_reducible rfl)
                    try simp only [Act.put, List.getElem_toArray, List.getElem_cons_zero, List.getElem_cons_succ, List.setIfInBounds_toArray, List.set_cons_zero, List.set_cons_succ]
                    refine wpAnyH_take (i := 9) (v := ?_) (o_at HG 9 rfl) Gns (by kernel_rfl) (by kernel_rfl) (fun _ _ _ h => h) (Or.inl ⟨(by kernel_rfl), ?_⟩) (by first | trivial | assumption) ?_
                    rotate_left
                    · (intro w hSw; (try dsimp only at hSw); go_simp; try with_reducible rfl)
                    try simp only [Act.put, List.getElem_toArray, List.getElem_cons_zero, List.getElem_cons_succ, List.setIfInBounds_toArray, List.set_cons_zero, List.set_cons_succ]
                    refine wpAnyH_take (i := 10) (v := ?_) (o_at HG 10 rfl) Gns (by kernel_rfl) (by kernel_rfl) (fun _ _ _ h => h) (Or.inl ⟨(by kernel_rfl), ?_⟩) (by first | trivial | assumption) ?_
                    rotate_left
                    · (intro w hSw; (try dsimp only at hSw); go_simp; try with_reducible rfl)
                    try simp only [Act.put, List.getElem_toArray, List.getElem_cons_zero, List.getElem_cons_succ, List.setIfInBounds_toArray, List.set_cons_zero, List.set_cons_succ]
                    refine wpAnyH_ready (rs := [4, 11]) (by kernel_rfl) (by simp) ?_
                    refine AllReadyH.cons (o_at HG 4 rfl) ?_ (AllReadyH.cons (o_at HG 11 rfl) ?_ (AllReadyH.nil))
                    · intro K' hK
                      have hc4 : Y0.cell? ⟨gj, 4, none⟩ = some (.slice AR rl cR) := (HCJ2.out Y0 HY0.out).2
                      rw [if_pos (by kernel_rfl)]
                      go_simp
                      clear hc4
                      refine hK.out _ _ trivial (fun _ => ?_)
                      try simp only [Act.put, List.getElem_toArray, List.getElem_cons_zero, List.getElem_cons_succ, List.setIfInBounds_toArray, List.set_cons_zero, List.set_cons_succ]
                      refine wpAnyH_ready (rs := [11]) (by kernel_rfl) (by simp) ?_
                      refine AllReadyH.cons (o_at HG 11 rfl) ?_ (AllReadyH.nil)
                      · intro K' hK
                        rw [if_pos (by kernel_rfl)]
                        go_simp
                        (with_reducible refine (HCLN.out Y0 HY0.out).mono ?_)
                        rintro e Y1 ⟨vb, rfl, hob, hbel⟩
                        obtain ⟨Ab, cb, rfl, sb, rbb⟩ := hob.reads
                        have hbs := hob.base_
                        rw [HBLN.out] at sb hbs ⊢
                        have HY1 := Lib.hid (bel_then HY0.out hbel)
                        have SB := Lib.hid sb
                        have RBB := Lib.hid rbb
                        have HAP : Hid (∀ ad, Ab = some ad → wb.heap.size ≤ ad.block) := Lib.hid (fun ad e => Nat.le_trans HY0.out.size (hbs ad.block (by rw [e]; rfl)))
                        clear hob hbel sb rbb hbs
                        refine hK.out _ _ trivial (fun _ => ?_)
                        try simp only [Act.put, List.getElem_toArray, List.getElem_cons_zero, List.getElem_cons_succ, List.setIfInBounds_toArray, List.set_cons_zero, List.set_cons_succ]
                        refine wpAnyH_ready (rs := [12]) (by kernel_rfl) (by simp) ?_
                        refine AllReadyH.cons (o_at HG 12 rfl) ?_ (AllReadyH.nil)
                        · intro K' hK
                          rw [if_pos (by kernel_rfl)]
                          go_simp
                          have HY2 := Lib.hid (bel_alloc HY1.out (.cells #[.slice Ab nn cb] 22))
                          have HN2 : Hid (∀ j u, [Value.slice Ab nn cb][j]? = some u → (Y1.alloc (.cells #[.slice Ab nn cb] 22)).cell? ((⟨Y1.heap.size, 0, none⟩ : Addr).add j) = some u) := Lib.hid (fun j u hu => cell_alloc _ _ _ _ _ rfl j u (by simpa using hu))
                          have RB2' := Lib.hid (RBB.out.alloc (.cells #[.slice Ab nn cb] 22))
                          generalize Y1.alloc (.cells #[.slice Ab nn cb] 22) = Y2 at *
                          generalize Y1.heap.size = k40 at *
                          refine hK.out _ _ trivial (fun _ => ?_)
                          try simp only [Act.put, List.getElem_toArray, List.getElem_cons_zero, List.getElem_cons_succ, List.setIfInBounds_toArray, List.set_cons_zero, List.set_cons_succ]
                          refine wpAnyH_ready (rs := [13]) (by kernel_rfl) (by simp) ?_
                          refine AllReadyH.cons (o_at HG 13 rfl) ?_ (AllReadyH.nil)
                          · intro K' hK
                            refine step_app (by kernel_rfl) _ _ 23 rfl 0 22 (.slice none 0 0) 1 24 Try.underlying23 info22 rfl (by decide) (.slice AR rl cR) rl (rowL jr) rfl ?_ (some ⟨k40, 0, none⟩) 1 1 [.slice Ab nn cb] rfl rfl (fun e => by cases e) (fun _ => ⟨_, rfl, HN2.out⟩) (by intro u hu; simp only [List.mem_cons, List.not_mem_nil, or_false] at hu; rcases hu with rfl; rfl) (by unfold maxLen; omega) (by omega) (Nat.zero_le _) ?_
                            · exact own_keep HOWN.out fun j hj => HY2.out.block j (HOWN.out.lt j hj).2
                            intro v3 Y3 ho hg hv
                            have hfin := HFIN.out Y2 Y3 v3 Ab cb HY2.out ho hg hv RB2'.out HAP.out SB.out
                            have hz4 : Y3.frozen? ⟨gj, 4, none⟩ = false := hfin.1
                            have hc4 : Y3.cell? ⟨gj, 4, none⟩ = some (.slice AR rl cR) := hfin.2.1
                            have HEND := Lib.hid hfin.2.2
                            clear ho hg hv hfin
                            refine hK.out _ _ trivial (fun _ => ?_)
                            try simp only [Act.put, List.getElem_toArray, List.getElem_cons_zero, List.getElem_cons_succ, List.setIfInBounds_toArray, List.set_cons_zero, List.set_cons_succ]
                            refine wpAnyH_take (i := 14) (v := ?_) (o_at HG 14 rfl) Gns (by kernel_rfl) (by kernel_rfl) (fun _ _ _ h => h) (Or.inl ⟨(by kernel_rfl), ?_⟩) (by first | trivial | assumption) ?_
                            rotate_left
                            · (intro w hSw; (try dsimp only at hSw); go_simp; try with_reducible rfl)
                            try simp only [Act.put, List.getElem_toArray, List.getElem_cons_zero, List.getElem_cons_succ, List.setIfInBounds_toArray, List.set_cons_zero, List.set_cons_succ]
                            refine wpAnyH_take (i := 15) (v := ?_) (o_at HG 15 rfl) Gns (by kernel_rfl) (by kernel_rfl) (fun _ _ _ h => h) (Or.inl ⟨(by kernel_rfl), ?_⟩) (by first | trivial | assumption) ?_
                            rotate_left
                            · (intro w hSw; (try dsimp only at hSw); go_simp; try with_reducible rfl)
                            try simp only [Act.put, List.getElem_toArray, List.getElem_cons_zero, List.getElem_cons_succ, List.setIfInBounds_toArray, List.set_cons_zero, List.set_cons_succ]
                            refine wpAnyH_ready (rs := [16]) (by kernel_rfl) (by simp) ?_
                            refine AllReadyH.cons (o_at HG 16 rfl) ?_ (AllReadyH.nil)
                            · intro K' hK
                              obtain ⟨Av, cv, hvv⟩ := HEND.out.1
                              subst hvv
                              rw [if_pos (by kernel_rfl)]
                              go_simp
                              clear hz4 hc4
                              refine hK.out _ _ trivial (fun _ => ?_)
                              try simp only [Act.put, List.getElem_toArray, List.getElem_cons_zero, List.getElem_cons_succ, List.setIfInBounds_toArray, List.set_cons_zero, List.set_cons_succ]
                              refine wpAnyH_done (by kernel_rfl) ?_ _
                              obtain ⟨-, c7', st7, jv7⟩ := HEND.out
                              have P7 := Lib.hid (Path.step (J := Only idj) rfl HPB.out st7)
                              have fz5 := frozen_of_row _ _ 5 _ _ jv7.obj
                              have cz5 : (Y3.setCell ⟨gj, 4, none⟩ (.slice Av (rl + 1) cv)).cell? ⟨gj, 5, none⟩ = some (.int .i64 (e1 : Int)) := by rw [cell_of_row _ _ 5 _ _ _ jv7.obj]; rfl
                              have hset := row_set (j := 5) (.int .i64 ((P + 9 + nn : Nat) : Int)) jv7.obj
                              obtain ⟨st8, jv8⟩ := jv7.put (j' := { j with recs := jr ++ [⟨0, B, Ab, cb⟩], endp := P + 9 + nn }) (keeps_set (j := 5) (u := .int .i64 ((P + 9 + nn : Nat) : Int)) (Keeps.refl (fun k => k = gj) _) rfl) hset rfl jv7.sb
                              rw [show ((P + 9 + nn : Nat) : Int) = (P : Int) + 9 + (nn : Int) by omega] at st8 jv8
                              have P8 := Lib.hid (Path.step (J := Only idj) rfl P7.out st8)
                              have c58 : ((Y3.setCell ⟨gj, 4, none⟩ (.slice Av (rl + 1) cv)).setCell ⟨gj, 5, none⟩ (.int .i64 ((P : Int) + 9 + (nn : Int)))).cell? ⟨gj, 5, none⟩ = some (.int .i64 ((P + 9 + nn : Nat) : Int)) := by rw [cell_of_row _ _ 5 _ _ _ jv8.obj]; rfl
                              have H0 : Hid (RdAt false idj gj gd H j w col ((Y3.setCell ⟨gj, 4, none⟩ (.slice Av (rl + 1) cv)).setCell ⟨gj, 5, none⟩ (.int .i64 ((P : Int) + 9 + (nn : Int))))) := Lib.hid ⟨rs ++ [⟨0, B, Ab, cb⟩], P + 9 + nn, c7', P8.out, ⟨_, by rw [← List.append_assoc, ← HJR.out]; exact jv8⟩, by
                                rw [List.map_append]
                                have h1 := Pre.snoc HPRE.out (b := B) (by rw [List.length_map]; exact HN.out)
                                rw [← HPP.out, HBLN.out] at h1
                                exact h1, by rw [← HL.out]; omega, by rw [List.length_append]; have := HCNT.out; simp; omega, fun h => by cases h⟩
                              have HMU0 : Hid (muR gj L 0 ((Y3.setCell ⟨gj, 4, none⟩ (.slice Av (rl + 1) cv)).setCell ⟨gj, 5, none⟩ (.int .i64 ((P : Int) + 9 + (nn : Int)))) < muR gj L 0 wr) := Lib.hid (by
                                rw [HMUW.out]
                                unfold muR endOf
                                rw [c58]
                                simp [intOf]
                                omega)
                              clear hset st8 jv8 c58 st7 jv7 w9 l9 t9 z9 m9 m99 d9
                              go_wp2
                              refine wp_goto ?_
                              exact ⟨frame_of _ _ _ rfl (.inl ⟨rfl, H0.out⟩), HMU0.out⟩
                    · intro K' hK
                      rw [if_pos (by kernel_rfl)]
                      go_simp
                      (with_reducible refine (HCLN.out Y0 HY0.out).mono ?_)
                      rintro e Y1 ⟨vb, rfl, hob, hbel⟩
                      obtain ⟨Ab, cb, rfl, sb, rbb⟩ := hob.reads
                      have hbs := hob.base_
                      rw [HBLN.out] at sb hbs ⊢
                      have HY1 := Lib.hid (bel_then HY0.out hbel)
                      have SB := Lib.hid sb
                      have RBB := Lib.hid rbb
                      have HAP : Hid (∀ ad, Ab = some ad → wb.heap.size ≤ ad.block) := Lib.hid (fun ad e => Nat.le_trans HY0.out.size (hbs ad.block (by rw [e]; rfl)))
                      clear hob hbel sb rbb hbs
                      refine hK.out _ _ trivial (fun _ => ?_)
                      try simp only [Act.put, List.getElem_toArray, List.getElem_cons_zero, List.getElem_cons_succ, List.setIfInBounds_toArray, List.set_cons_zero, List.set_cons_succ]
                      refine wpAnyH_ready (rs := [4, 12]) (by kernel_rfl) (by simp) ?_
                      refine AllReadyH.cons (o_at HG 4 rfl) ?_ (AllReadyH.cons (o_at HG 12 rfl) ?_ (AllReadyH.nil))
                      · intro K' hK
                        have hc4 : Y1.cell? ⟨gj, 4, none⟩ = some (.slice AR rl cR) := (HCJ2.out Y1 HY1.out).2
                        rw [if_pos (by kernel_rfl)]
                        go_simp
                        clear hc4
                        refine hK.out _ _ trivial (fun _ => ?_)
                        try simp only [Act.put, List.getElem_toArray, List.getElem_cons_zero, List.getElem_cons_succ, List.setIfInBounds_toArray, List.set_cons_zero, List.set_cons_succ]
                        refine wpAnyH_ready (rs := [12]) (by kernel_rfl) (by simp) ?_
                        refine AllReadyH.cons (o_at HG 12 rfl) ?_ (AllReadyH.nil)
                        · intro K' hK
                          rw [if_pos (by kernel_rfl)]
                          go_simp
                          have HY2 := Lib.hid (bel_alloc HY1.out (.cells #[.slice Ab nn cb] 22))
                          have HN2 : Hid (∀ j u, [Value.slice Ab nn cb][j]? = some u → (Y1.alloc (.cells #[.slice Ab nn cb] 22)).cell? ((⟨Y1.heap.size, 0, none⟩ : Addr).add j) = some u) := Lib.hid (fun j u hu => cell_alloc _ _ _ _ _ rfl j u (by simpa using hu))
                          have RB2' := Lib.hid (RBB.out.alloc (.cells #[.slice Ab nn cb] 22))
                          generalize Y1.alloc (.cells #[.slice Ab nn cb] 22) = Y2 at *
                          generalize Y1.heap.size = k40 at *
                          refine hK.out _ _ trivial (fun _ => ?_)
                          try simp only [Act.put, List.getElem_toArray, List.getElem_cons_zero, List.getElem_cons_succ, List.setIfInBounds_toArray, List.set_cons_zero, List.set_cons_succ]
                          refine wpAnyH_ready (rs := [13]) (by kernel_rfl) (by simp) ?_
                          refine AllReadyH.cons (o_at HG 13 rfl) ?_ (AllReadyH.nil)
                          · intro K' hK
                            refine step_app (by kernel_rfl) _ _ 23 rfl 0 22 (.slice none 0 0) 1 24 Try.underlying23 info22 rfl (by decide) (.slice AR rl cR) rl (rowL jr) rfl ?_ (some ⟨k40, 0, none⟩) 1 1 [.slice Ab nn cb] rfl rfl (fun e => by cases e) (fun _ => ⟨_, rfl, HN2.out⟩) (by intro u hu; simp only [List.mem_cons, List.not_mem_nil, or_false] at hu; rcases hu with rfl; rfl) (by unfold maxLen; omega) (by omega) (Nat.zero_le _) ?_
                            · exact own_keep HOWN.out fun j hj => HY2.out.block j (HOWN.out.lt j hj).2
                            intro v3 Y3 ho hg hv
                            have hfin := HFIN.out Y2 Y3 v3 Ab cb HY2.out ho hg hv RB2'.out HAP.out SB.out
                            have hz4 : Y3.frozen? ⟨gj, 4, none⟩ = false := hfin.1
                            have hc4 : Y3.cell? ⟨gj, 4, none⟩ = some (.slice AR rl cR) := hfin.2.1
                            have HEND := Lib.hid hfin.2.2
                            clear ho hg hv hfin
                            refine hK.out _ _ trivial (fun _ => ?_)
                            try simp only [Act.put, List.getElem_toArray, List.getElem_cons_zero, List.getElem_cons_succ, List.setIfInBounds_toArray, List.set_cons_zero, List.set_cons_succ]
                            refine wpAnyH_take (i := 14) (v := ?_) (o_at HG 14 rfl) Gns (by kernel_rfl) (by kernel_rfl) (fun _ _ _ h => h) (Or.inl ⟨(by kernel_rfl), ?_⟩) (by first | trivial | assumption) ?_
                            rotate_left
                            · (intro w hSw; (try dsimp only at hSw); go_simp; try with_reducible rfl)
                            try simp only [Act.put, List.getElem_toArray, List.getElem_cons_zero, List.getElem_cons_succ, List.setIfInBounds_toArray, List.set_cons_zero, List.set_cons_succ]
                            refine wpAnyH_take (i := 15) (v := ?_) (o_at HG 15 rfl) Gns (by kernel_rfl) (by kernel_rfl) (fun _ _ _ h => h) (Or.inl ⟨(by kernel_rfl), ?_⟩) (by first | trivial | assumption) ?_
                            rotate_left
                            · (intro w hSw; (try dsimp only at hSw); go_simp; try with_reducible rfl)
                            try simp only [Act.put, List.getElem_toArray, List.getElem_cons_zero, List.getElem_cons_succ, List.setIfInBounds_toArray, List.set_cons_zero, List.set_cons_succ]
                            refine wpAnyH_ready (rs := [16]) (by kernel_rfl) (by simp) ?_
                            refine AllReadyH.cons (o_at HG 16 rfl) ?_ (AllReadyH.nil)
                            · intro K' hK
                              obtain ⟨Av, cv, hvv⟩ := HEND.out.1
                              subst hvv
                              rw [if_pos (by kernel_rfl)]
                              go_simp
                              clear hz4 hc4
                              refine hK.out _ _ trivial (fun _ => ?_)
                              try simp only [Act.put, List.getElem_toArray, List.getElem_cons_zero, List.getElem_cons_succ, List.setIfInBounds_toArray, List.set_cons_zero, List.set_cons_succ]
                              refine wpAnyH_done (by kernel_rfl) ?_ _
                              obtain ⟨-, c7', st7, jv7⟩ := HEND.out
                              have P7 := Lib.hid (Path.step (J := Only idj) rfl HPB.out st7)
                              have fz5 := frozen_of_row _ _ 5 _ _ jv7.obj
                              have cz5 : (Y3.setCell ⟨gj, 4, none⟩ (.slice Av (rl + 1) cv)).cell? ⟨gj, 5, none⟩ = some (.int .i64 (e1 : Int)) := by rw [cell_of_row _ _ 5 _ _ _ jv7.obj]; rfl
                              have hset := row_set (j := 5) (.int .i64 ((P + 9 + nn : Nat) : Int)) jv7.obj
                              obtain ⟨st8, jv8⟩ := jv7.put (j' := { j with recs := jr ++ [⟨0, B, Ab, cb⟩], endp := P + 9 + nn }) (keeps_set (j := 5) (u := .int .i64 ((P + 9 + nn : Nat) : Int)) (Keeps.refl (fun k => k = gj) _) rfl) hset rfl jv7.sb
                              rw [show ((P + 9 + nn : Nat) : Int) = (P : Int) + 9 + (nn : Int) by omega] at st8 jv8
                              have P8 := Lib.hid (Path.step (J := Only idj) rfl P7.out st8)
                              have c58 : ((Y3.setCell ⟨gj, 4, none⟩ (.slice Av (rl + 1) cv)).setCell ⟨gj, 5, none⟩ (.int .i64 ((P : Int) + 9 + (nn : Int)))).cell? ⟨gj, 5, none⟩ = some (.int .i64 ((P + 9 + nn : Nat) : Int)) := by rw [cell_of_row _ _ 5 _ _ _ jv8.obj]; rfl
                              have H0 : Hid (RdAt false idj gj gd H j w col ((Y3.setCell ⟨gj, 4, none⟩ (.slice Av (rl + 1) cv)).setCell ⟨gj, 5, none⟩ (.int .i64 ((P : Int) + 9 + (nn : Int))))) := Lib.hid ⟨rs ++ [⟨0, B, Ab, cb⟩], P + 9 + nn, c7', P8.out, ⟨_, by rw [← List.append_assoc, ← HJR.out]; exact jv8⟩, by
                                rw [List.map_append]
                                have h1 := Pre.snoc HPRE.out (b := B) (by rw [List.length_map]; exact HN.out)
                                rw [← HPP.out, HBLN.out] at h1
                                exact h1, by rw [← HL.out]; omega, by rw [List.length_append]; have := HCNT.out; simp; omega, fun h => by cases h⟩
                              have HMU0 : Hid (muR gj L 0 ((Y3.setCell ⟨gj, 4, none⟩ (.slice Av (rl + 1) cv)).setCell ⟨gj, 5, none⟩ (.int .i64 ((P : Int) + 9 + (nn : Int)))) < muR gj L 0 wr) := Lib.hid (by
                                rw [HMUW.out]
                                unfold muR endOf
                                rw [c58]
                                simp [intOf]
                                omega)
                              clear hset st8 jv8 c58 st7 jv7 w9 l9 t9 z9 m9 m99 d9
                              go_wp2
                              refine wp_goto ?_
                              exact ⟨frame_of _ _ _ rfl (.inl ⟨rfl, H0.out⟩), HMU0.out⟩
                      · intro K' hK
                        rw [if_pos (by kernel_rfl)]
                        go_simp
                        have HY2 := Lib.hid (bel_alloc HY1.out (.cells #[.slice Ab nn cb] 22))
                        have HN2 : Hid (∀ j u, [Value.slice Ab nn cb][j]? = some u → (Y1.alloc (.cells #[.slice Ab nn cb] 22)).cell? ((⟨Y1.heap.size, 0, none⟩ : Addr).add j) = some u) := Lib.hid (fun j u hu => cell_alloc _ _ _ _ _ rfl j u (by simpa using hu))
                        have RB2' := Lib.hid (RBB.out.alloc (.cells #[.slice Ab nn cb] 22))
                        generalize Y1.alloc (.cells #[.slice Ab nn cb] 22) = Y2 at *
                        generalize Y1.heap.size = k40 at *
                        refine hK.out _ _ trivial (fun _ => ?_)
                        try simp only [Act.put, List.getElem_toArray, List.getElem_cons_zero, List.getElem_cons_succ, List.setIfInBounds_toArray, List.set_cons_zero, List.set_cons_succ]
                        refine wpAnyH_ready (rs := [4]) (by kernel_rfl) (by simp) ?_
                        refine AllReadyH.cons (o_at HG 4 rfl) ?_ (AllReadyH.nil)
                        · intro K' hK
                          have hc4 : Y2.cell? ⟨gj, 4, none⟩ = some (.slice AR rl cR) := (HCJ2.out Y2 HY2.out).2
                          rw [if_pos (by kernel_rfl)]
                          go_simp
                          clear hc4
                          refine hK.out _ _ trivial (fun _ => ?_)
                          try simp only [Act.put, List.getElem_toArray, List.getElem_cons_zero, List.getElem_cons_succ, List.setIfInBounds_toArray, List.set_cons_zero, List.set_cons_succ]
                          refine wpAnyH_ready (rs := [13]) (by kernel_rfl) (by simp) ?_
                          refine AllReadyH.cons (o_at HG 13 rfl) ?_ (AllReadyH.nil)
                          · intro K' hK
                            refine step_app (by kernel_rfl) _ _ 23 rfl 0 22 (.slice none 0 0) 1 24 Try.underlying23 info22 rfl (by decide) (.slice AR rl cR) rl (rowL jr) rfl ?_ (some ⟨k40, 0, none⟩) 1 1 [.slice Ab nn cb] rfl rfl (fun e => by cases e) (fun _ => ⟨_, rfl, HN2.out⟩) (by intro u hu; simp only [List.mem_cons, List.not_mem_nil, or_false] at hu; rcases hu with rfl; rfl) (by unfold maxLen; omega) (by omega) (Nat.zero_le _) ?_
                            · exact own_keep HOWN.out fun j hj => HY2.out.block j (HOWN.out.lt j hj).2
                            intro v3 Y3 ho hg hv
                            have hfin := HFIN.out Y2 Y3 v3 Ab cb HY2.out ho hg hv RB2'.out HAP.out SB.out
                            have hz4 : Y3.frozen? ⟨gj, 4, none⟩ = false := hfin.1
                            have hc4 : Y3.cell? ⟨gj, 4, none⟩ = some (.slice AR rl cR) := hfin.2.1
                            have HEND := Lib.hid hfin.2.2
                            clear ho hg hv hfin
                            refine hK.out _ _ trivial (fun _ => ?_)
                            try simp only [Act.put, List.getElem_toArray, List.getElem_cons_zero, List.getElem_cons_succ, List.setIfInBounds_toArray, List.set_cons_zero, List.set_cons_succ]
                            refine wpAnyH_take (i := 14) (v := ?_) (o_at HG 14 rfl) Gns (by kernel_rfl) (by kernel_rfl) (fun _ _ _ h => h) (Or.inl ⟨(by kernel_rfl), ?_⟩) (by first | trivial | assumption) ?_
                            rotate_left
                            · (intro w hSw; (try dsimp only at hSw); go_simp; try with_reducible rfl)
                            try simp only [Act.put, List.getElem_toArray, List.getElem_cons_zero, List.getElem_cons_succ, List.setIfInBounds_toArray, List.set_cons_zero, List.set_cons_succ]
                            refine wpAnyH_take (i := 15) (v := ?_) (o_at HG 15 rfl) Gns (by kernel_rfl) (by kernel_rfl) (fun _ _ _ h => h) (Or.inl ⟨(by kernel_rfl), ?_⟩) (by first | trivial | assumption) ?_
                            rotate_left
                            · (intro w hSw; (try dsimp only at hSw); go_simp; try with_reducible rfl)
                            try simp only [Act.put, List.getElem_toArray, List.getElem_cons_zero, List.getElem_cons_succ, List.setIfInBounds_toArray, List.set_cons_zero, List.set_cons_succ]
                            refine wpAnyH_ready (rs := [16]) (by kernel_rfl) (by simp) ?_
                            refine AllReadyH.cons (o_at HG 16 rfl) ?_ (AllReadyH.nil)
                            · intro K' hK
                              obtain ⟨Av, cv, hvv⟩ := HEND.out.1
                              subst hvv
                              rw [if_pos (by kernel_rfl)]
                              go_simp
                              clear hz4 hc4
                              refine hK.out _ _ trivial (fun _ => ?_)
                              try simp only [Act.put, List.getElem_toArray, List.getElem_cons_zero, List.getElem_cons_succ, List.setIfInBounds_toArray, List.set_cons_zero, List.set_cons_succ]
                              refine wpAnyH_done (by kernel_rfl) ?_ _
                              obtain ⟨-, c7', st7, jv7⟩ := HEND.out
                              have P7 := Lib.hid (Path.step (J := Only idj) rfl HPB.out st7)
                              have fz5 := frozen_of_row _ _ 5 _ _ jv7.obj
                              have cz5 : (Y3.setCell ⟨gj, 4, none⟩ (.slice Av (rl + 1) cv)).cell? ⟨gj, 5, none⟩ = some (.int .i64 (e1 : Int)) := by rw [cell_of_row _ _ 5 _ _ _ jv7.obj]; rfl
                              have hset := row_set (j := 5) (.int .i64 ((P + 9 + nn : Nat) : Int)) jv7.obj
                              obtain ⟨st8, jv8⟩ := jv7.put (j' := { j with recs := jr ++ [⟨0, B, Ab, cb⟩], endp := P + 9 + nn }) (keeps_set (j := 5) (u := .int .i64 ((P + 9 + nn : Nat) : Int)) (Keeps.refl (fun k => k = gj) _) rfl) hset rfl jv7.sb
                              rw [show ((P + 9 + nn : Nat) : Int) = (P : Int) + 9 + (nn : Int) by omega] at st8 jv8
                              have P8 := Lib.hid (Path.step (J := Only idj) rfl P7.out st8)
                              have c58 : ((Y3.setCell ⟨gj, 4, none⟩ (.slice Av (rl + 1) cv)).setCell ⟨gj, 5, none⟩ (.int .i64 ((P : Int) + 9 + (nn : Int)))).cell? ⟨gj, 5, none⟩ = some (.int .i64 ((P + 9 + nn : Nat) : Int)) := by rw [cell_of_row _ _ 5 _ _ _ jv8.obj]; rfl
                              have H0 : Hid (RdAt false idj gj gd H j w col ((Y3.setCell ⟨gj, 4, none⟩ (.slice Av (rl + 1) cv)).setCell ⟨gj, 5, none⟩ (.int .i64 ((P : Int) + 9 + (nn : Int))))) := Lib.hid ⟨rs ++ [⟨0, B, Ab, cb⟩], P + 9 + nn, c7', P8.out, ⟨_, by rw [← List.append_assoc, ← HJR.out]; exact jv8⟩, by
                                rw [List.map_append]
                                have h1 := Pre.snoc HPRE.out (b := B) (by rw [List.length_map]; exact HN.out)
                                rw [← HPP.out, HBLN.out] at h1
                                exact h1, by rw [← HL.out]; omega, by rw [List.length_append]; have := HCNT.out; simp; omega, fun h => by cases h⟩
                              have HMU0 : Hid (muR gj L 0 ((Y3.setCell ⟨gj, 4, none⟩ (.slice Av (rl + 1) cv)).setCell ⟨gj, 5, none⟩ (.int .i64 ((P : Int) + 9 + (nn : Int)))) < muR gj L 0 wr) := Lib.hid (by
                                rw [HMUW.out]
                                unfold muR endOf
                                rw [c58]
                                simp [intOf]
                                omega)
                              clear hset st8 jv8 c58 st7 jv7 w9 l9 t9 z9 m9 m99 d9
                              go_wp2
                              refine wp_goto ?_
                              exact ⟨frame_of _ _ _ rfl (.inl ⟨rfl, H0.out⟩), HMU0.out⟩
        · have HN : Hid (recAt H j.number (j.recs.length + 1 + rs.length) e1 = none) := Lib.hid (by
            unfold recAt
            rw [if_neg HB1N.out, if_pos]
            rw [← HPP.out]
            intro h
            exact b2 (by rw [HXB.out, h]; rfl))
          have hb2 : ((xb : Int) != 165) = true := by simp; omega
          have H1 := Lib.hid (HFIN0.out HN.out)
          clear b2
          go_wp2
          refine wp_goto ?_
          exact ⟨frame_of _ _ _ rfl (.inr ⟨rfl, H1.out⟩), HMU1H.out⟩
    · refine ⟨_, rfl, ?_⟩
      have HST := Lib.hid hst
      clear hst HST0
      go_wp2
      simp only [jumps]
      go_end0
      exact ⟨rfl, HST.out⟩
end Go.Proofs.Ytdldclakkplliaa
