/- The walk of JournalPlays. Conditions: none. -/
import Derived.Test.YtdldclakkplliaaJBook
import Derived.Test.YtdldclakkplliaaJAwake
import Derived.Test.YtdldclakkplliaaSteps
namespace Go.Proofs.Ytdldclakkplliaa
set_option linter.unusedVariables false
set_option linter.unusedSimpArgs false
open Go.RowKit

theorem Keeps.row (w : World) (g : Nat) (cs : Array Value) : Keeps (fun k => k = g) w (w.setRow g cs) :=
  ⟨rfl, rfl, rfl, by rw [setRow_size]; exact Nat.le_refl _, fun k _ hk => setRow_other w g k cs hk⟩
theorem Step.row {w : World} {col : Nat → Nat} {g id : Nat} (hc : col g = id) (cs : Array Value) : Step id w col (w.setRow g cs) col :=
  ⟨(Keeps.row w g cs).mono fun k _ e => e ▸ hc, fun _ _ => rfl⟩
/-- What the loop keeps. -/
structure PK (w wr : World) (col : Nat → Nat) (gd mb gj gb i : Nat) (d : DK) (j : JK) (x y : Value) (base : List UInt8) (ls : List (List UInt8)) : Prop where
  old : Old w wr col
  js : JS wr col 1 2 gd mb gj (1000 * i) d j
  num : j.number ≤ i
  box : wr.heap[gb]? = some (.cells #[x, y] 39 (0, 0))
  bcol : col gb = 3
  bk : Bk wr col (.agg #[x, y]) base ls
  eqb : j.base.b = base
  eqr : j.recs.map (·.b) = ls
  len : ls.length ≤ i
theorem Bk.two {w : World} {col : Nat → Nat} {v : Value} {base : List UInt8} {ls : List (List UInt8)} (h : Bk w col v base ls) : ∃ x y, v = .agg #[x, y] := by
  obtain ⟨Ab, cb, Al, n, cl, rs, rfl, -⟩ := h
  exact ⟨_, _, rfl⟩
theorem box_kept {w w' : World} {col col' : Nat → Nat} {J : Nat → Prop} {gb : Nat} {o : Obj} (h : w.heap[gb]? = some o) (hc : col gb = 3) (p : Path J w col w' col') (hJ : ∀ i, J i → i ≠ 3) : w'.heap[gb]? = some o ∧ col' gb = 3 := by
  have hlt := (Array.getElem?_eq_some_iff.1 h).1
  have := p.kept hlt (fun i hi => by rw [hc]; exact hJ i hi)
  exact ⟨this.1.trans h, this.2.1.trans hc⟩
theorem PK.path {J : Nat → Prop} {w wr w' : World} {col col' : Nat → Nat} {gd mb gj gb i : Nat} {d : DK} {j : JK} {x y : Value} {base : List UInt8} {ls : List (List UInt8)} (h : PK w wr col gd mb gj gb i d j x y base ls) (p : Path J wr col w' col') (hJ : ∀ i, J i → i ≠ 0 ∧ i ≠ 1 ∧ i ≠ 2 ∧ i ≠ 3) : PK w w' col' gd mb gj gb i d j x y base ls := by
  have hb := box_kept h.box h.bcol p fun i hi => (hJ i hi).2.2.2
  exact ⟨h.old.path p fun i hi => (hJ i hi).1, h.js.path p fun i hi => ⟨(hJ i hi).1, (hJ i hi).2.1, (hJ i hi).2.2.1⟩, h.num, hb.1, hb.2, h.bk.path p fun i hi => (hJ i hi).1, h.eqb, h.eqr, h.len⟩
theorem PK.grow {w wr w' : World} {col : Nat → Nat} {gd mb gj gb i : Nat} {d : DK} {j : JK} {x y : Value} {base : List UInt8} {ls : List (List UInt8)} (h : PK w wr col gd mb gj gb i d j x y base ls) (hb : Below wr.heap.size wr w') : PK w w' (paint wr col (fun _ => 0)) gd mb gj gb i d j x y base ls :=
  h.path (J := fun _ => False) (.grow .refl hb) (fun i hi => hi.elim)
/-- A step was done, and the book was written. -/
theorem PK.store {w w2 w3 : World} {c2 : Nat → Nat} {gd mb gj gb i : Nat} {d2 : DK} {j2 : JK} {x y x3 y3 : Value} {base3 : List UInt8} {ls3 : List (List UInt8)} (ho : Old w w2 c2) (hj : JS w2 c2 1 2 gd mb gj (1000 * (i + 1)) d2 j2) (hn : j2.number ≤ i + 1) (hbox : w2.heap[gb]? = some (.cells #[x, y] 39 (0, 0))) (hbc : c2 gb = 3)
    (h3 : Below w2.heap.size w2 w3) (hk : Bk w3 (paint w2 c2 (fun _ => 0)) (.agg #[x3, y3]) base3 ls3) (hb : j2.base.b = base3) (hr : j2.recs.map (·.b) = ls3) (hl : ls3.length ≤ i + 1) :
    PK w (w3.setRow gb #[x3, y3]) (paint w2 c2 (fun _ => 0)) gd mb gj gb (i + 1) d2 j2 x3 y3 base3 ls3 := by
  have hlt := (Array.getElem?_eq_some_iff.1 hbox).1
  have hc3 : paint w2 c2 (fun _ => 0) gb = 3 := (paint_old hlt).trans hbc
  have hb3 : w3.heap[gb]? = some (.cells #[x, y] 39 (0, 0)) := (h3.block gb hlt).trans hbox
  have st := Step.row (w := w3) hc3 #[x3, y3]
  have p : Path (Only 3) w3 (paint w2 c2 (fun _ => 0)) (w3.setRow gb #[x3, y3]) (paint w2 c2 (fun _ => 0)) := .step rfl .refl st
  have hJ : ∀ i, Only 3 i → i = 3 := fun i hi => hi
  exact ⟨(ho.grow h3 _).path p (fun i hi => by have := hJ i hi; omega), (hj.grow h3 _).path p (fun i hi => by have := hJ i hi; omega), hn, setRow_heap _ _ _ _ _ _ hb3, hc3, hk.path p (fun i hi => by have := hJ i hi; omega), hb, hr, hl⟩
theorem shows_bk {w : World} {col : Nat → Nat} {id idj gd mb gj a : Nat} {d : DK} {j : JK} (h : JS w col id idj gd mb gj a d j) {v : Value} {base : List UInt8} {ls : List (List UInt8)} (hb : Bk w col v base ls) (hl : ls.length ≤ 1000000) :
    Calls Try.prog 21 #[.pointer (some ⟨gj, 0, none⟩), v] w fun e w' => e = .returned (.bool (decide (j.base.b = base ∧ j.recs.map (·.b) = ls))) ∧ Below w.heap.size w w' := by
  obtain ⟨Ab, cb, Al, n, cl, rs, rfl, h2, h3, h4, rfl⟩ := hb
  rw [List.length_map] at hl
  have hs := shows_js h Ab Al cb cl base (rs.map (·.b)) h2.read (h4.rl (by omega))
  rw [List.length_map, ← h4.len] at hs
  exact hs
theorem PK.shows {w wr : World} {col : Nat → Nat} {gd mb gj gb i : Nat} {d : DK} {j : JK} {x y : Value} {base : List UInt8} {ls : List (List UInt8)} (h : PK w wr col gd mb gj gb i d j x y base ls) (hi : i ≤ 1000) :
    Calls Try.prog 21 #[.pointer (some ⟨gj, 0, none⟩), .agg #[x, y]] wr fun e w' => e = .returned (.bool true) ∧ Below wr.heap.size wr w' := by
  have := shows_bk h.js h.bk (by have := h.len; omega)
  rw [decide_eq_true (by rw [h.eqb, h.eqr]; exact ⟨rfl, rfl⟩)] at this
  exact this
theorem Bk.one {w : World} {col : Nat → Nat} {x y : Value} {base : List UInt8} {ls : List (List UInt8)} (h : Bk w col (.agg #[x, y]) base ls) : #[x, y].all (·.oneCell') = true := by
  obtain ⟨Ab, cb, Al, n, cl, rs, e, -⟩ := h
  cases e
  simp [Value.oneCell']
/-- An act that left the book as it was. -/
theorem PK.act {w w4 w5 : World} {c4 c5 : Nat → Nat} {gd mb gj gb i : Nat} {d : DK} {j : JK} {x y : Value} {base : List UInt8} {ls : List (List UInt8)} {J : Nat → Prop} (h : PK w w4 c4 gd mb gj gb i d j x y base ls) (p : Path J w4 c4 w5 c5) (hJ : ∀ i, J i → i = 1 ∨ i = 2) :
    Old w w5 c5 ∧ w5.heap[gb]? = some (.cells #[x, y] 39 (0, 0)) ∧ c5 gb = 3 ∧ Bk w5 c5 (.agg #[x, y]) base ls := by
  have hb := box_kept h.box h.bcol p fun i hi => by have := hJ i hi; omega
  exact ⟨h.old.path p fun i hi => by have := hJ i hi; omega, hb.1, hb.2, h.bk.path p fun i hi => by have := hJ i hi; omega⟩
theorem PK.cells {w wr : World} {col : Nat → Nat} {gd mb gj gb i : Nat} {d : DK} {j : JK} {x y : Value} {base : List UInt8} {ls : List (List UInt8)} (h : PK w wr col gd mb gj gb i d j x y base ls) : wr.cell? ⟨gb, 0, none⟩ = some x ∧ wr.cell? ⟨gb, 1, none⟩ = some y :=
  ⟨by rw [cell_of_row _ _ 0 _ _ _ h.box]; rfl, by rw [cell_of_row _ _ 1 _ _ _ h.box]; rfl⟩
set_option maxRecDepth 100000 in
set_option maxHeartbeats 16000000 in
theorem jplays_walk (N : Nat) (A : Option Addr) (c : Nat) (ss : List S3) (w : World) (hra : RT w A ss) (hwa : ∀ s ∈ ss, s.wf) (hN : 8 ≤ N ∧ N ≤ 2000) (hl : ss.length ≤ 40) :
    Calls Try.prog 10 #[.int .i64 N, .slice A ss.length c] w fun e w' => e = .returned (.bool true) ∧ Below w.heap.size w w' := by
  have HRA := Lib.hid hra
  have HWA := Lib.hid hwa
  obtain ⟨l, hxl⟩ : ∃ m, m = ss.length := ⟨_, rfl⟩
  rw [← hxl] at hl ⊢
  have XL := Lib.hid hxl
  have hz1 : decide ((N : Int) < 8) = false := by simp; omega
  have hz2 : decide (2000 < (N : Int)) = false := by simp; omega
  have hz3 : decide (40 < (l : Int)) = false := by simp; omega
  obtain ⟨hn1, hn2⟩ := hN
  clear hra hwa hxl
  go_enter Try.func10, Try.ntmps10
  go_wp2_with fail
  refine (new_any 1 N (by omega) w (fun _ => 0) ⟨by omega, by omega⟩).mono ?_
  rintro e w1 ⟨gd, mb, c1, rfl, s1, h1⟩
  have O1 := Lib.hid ((Old.init w).step s1 (by omega))
  have D1 := Lib.hid h1
  clear s1 h1 hz1 hz2 hz3
  go_wp2_with fail
  refine (open_js 1 2 gd mb 0 (newDK N) 0 0 [] [] 64 w1 c1 D1.out (by omega) (by omega) (by omega) (Calm.new N ⟨hn1, by omega⟩) (HInv.new N hn1)).mono ?_
  rintro e w2 ⟨gj, j0, c2, rfl, p2, S2, q1, q2, q3, q4, q5⟩
  have hb3 := bel_alloc (Below.refl w2.heap.size w2) (.cells #[.slice none 0 0, .slice none 0 0] 39)
  have O2 := Lib.hid ((O1.out.path p2 (Only.nz (by omega))).grow hb3 (fun _ => 3))
  have hk := Bk.zero (w2.alloc (.cells #[.slice none 0 0, .slice none 0 0] 39)) (paint w2 c2 (fun _ => 3))
  have HPK : Hid (PK w (w2.alloc (.cells #[.slice none 0 0, .slice none 0 0] 39)) (paint w2 c2 (fun _ => 3)) gd mb gj w2.heap.size 0 (newDK N) j0 (.slice none 0 0) (.slice none 0 0) [] []) :=
    Lib.hid ⟨O2.out, S2.grow hb3 _, by omega, heap_alloc_new _ _, paint_new (Nat.le_refl _), hk, q3, q4, by simp⟩
  clear p2 S2 q1 q2 q3 q4 q5 O1 D1 O2 hk hb3
  go_wp2
  generalize w2.alloc (.cells #[.slice none 0 0, .slice none 0 0] 39) = w3 at *
  generalize w2.heap.size = gb at *
  generalize paint w2 c2 (fun _ => 3) = c3 at *
  go_loopw [7, 10, 11, 12, 13, 14, 15, 16] (fun u7 u10 u11 u12 u13 u14 u15 u16 w' => ∃ (i gj : Nat) (d : DK) (j : JK) (x y : Value) (base : List UInt8) (ls : List (List UInt8)) (col : Nat → Nat), i ≤ l ∧ u10 = .int .i64 i ∧ u7 = .pointer (some ⟨gj, 0, none⟩) ∧ Hid (PK w w' col gd mb gj gb i d j x y base ls)) (fun _ u10 _ _ _ _ _ _ _ => l - (intOf u10).toNat)
  case atStart => exact ⟨0, gj, _, j0, _, _, [], [], c3, by omega, rfl, rfl, HPK⟩
  case round =>
    clear HPK
    obtain ⟨i, gj, d, j, x, y, base, ls, col, hi, rfl, rfl, HK⟩ := hrel
    by_cases hlt : i < l
    · obtain ⟨s, hs⟩ : ∃ s, ss[i]? = some s := ⟨_, List.getElem?_eq_getElem (by rw [← XL.out]; exact hlt)⟩
      obtain ⟨ad, rfl, x0, x1, x2⟩ := (HRA.out.below HK.out.old.below).at_ i s hs
      have HS := Lib.hid (HWA.out s (List.mem_of_getElem? hs))
      obtain ⟨sk, sn, sx⟩ := s
      simp only at x0 x1 x2
      have hsn : -9223372036854775808 ≤ sn ∧ sn ≤ 9223372036854775807 := HS.out.2.1
      obtain ⟨q, hq⟩ : ∃ m, m = (sn % 300).toNat := ⟨_, rfl⟩
      obtain ⟨B, hB⟩ : ∃ B, B = datB sn sx := ⟨_, rfl⟩
      have hqB : B.length = q := by rw [hB, datB_len, hq]
      have HQB := Lib.hid hqB
      have HBD := Lib.hid hB
      have HD39 : Hid (∀ X, Calls Try.prog 39 #[.agg #[.int .i64 sk, .int .i64 sn, .int .i64 sx]] X (NewB X q B)) := Lib.hid (fun X => by
        rw [hq, hB]
        exact data_any sk _ _ X hsn)
      have HSN := Lib.hid hsn
      obtain ⟨W1, hW1⟩ : ∃ W, W = wr.alloc (.cells #[.int .i64 sk, .int .i64 sn, .int .i64 sx] 46) := ⟨_, rfl⟩
      obtain ⟨gs, hgs⟩ : ∃ g, g = wr.heap.size := ⟨_, rfl⟩
      have hb1 : Below wr.heap.size wr W1 := by rw [hW1]; exact bel_alloc (Below.refl _ _) _
      have hg1 : W1.heap[gs]? = some (.cells #[.int .i64 sk, .int .i64 sn, .int .i64 sx] 46 (0, 0)) := by rw [hW1, hgs]; exact heap_alloc_new wr _
      have K1 := Lib.hid (HK.out.grow hb1)
      have hgc : paint wr col (fun _ => 0) gs = 0 := paint_new (by omega)
      obtain ⟨c1, hc1⟩ : ∃ f, f = paint wr col (fun _ => 0) := ⟨_, rfl⟩
      rw [← hc1] at K1 hgc
      have HSB : Hid (∀ (X : World) (cX : Nat → Nat), Path (Two 1 2) W1 c1 X cX → X.cell? ⟨gs, 0, none⟩ = some (.int .i64 sk) ∧ X.cell? ⟨gs, 1, none⟩ = some (.int .i64 sn) ∧ X.cell? ⟨gs, 2, none⟩ = some (.int .i64 sx)) := Lib.hid (fun X cX p => by
        have e1 := p.cells (Two.nz (by omega) (by omega)) hg1 hgc
        exact ⟨by rw [cell_of_row _ _ 0 _ _ _ e1]; rfl, by rw [cell_of_row _ _ 1 _ _ _ e1]; rfl, by rw [cell_of_row _ _ 2 _ _ _ e1]; rfl⟩)
      have HW1 := Lib.hid hW1
      have HGS := Lib.hid hgs
      clear hs hq hB hqB hsn HS HK hb1 hg1 hgc hc1 hW1 hgs
      by_cases k1 : sk = 1
      · subst k1
        obtain ⟨RM, hRM⟩ : ∃ r, r = roomN d.n j.endp := ⟨_, rfl⟩
        have HRM := Lib.hid hRM
        clear hRM
        go_wp2_with fail
        rw [← HW1.out, ← HGS.out]
        have hr := room_js K1.out.js
        rw [← HRM.out] at hr
        refine hr.mono ?_
        clear hr
        rintro e w4 ⟨rfl, hb4⟩
        have K4 := Lib.hid (K1.out.grow hb4)
        have p4 : Path (Two 1 2) W1 c1 w4 (paint W1 c1 (fun _ => 0)) := .grow .refl hb4
        generalize paint W1 c1 (fun _ => 0) = c4 at *
        have P4 := Lib.hid p4
        obtain ⟨y0, y1, y2⟩ := HSB.out w4 c4 p4
        clear p4 hb4 x0 x1 x2
        go_wp2_with fail
        refine (does_js 1 2 gd mb gj (1000 * i) d j _ sn sx w4 c4 K4.out.js (by omega) (by omega) (by omega) (by omega) (by have := K4.out.num; omega) HSN.out).mono ?_
        rintro e w5 ⟨x5, d5, j5, c5, rfl, p5, S5, n5, hx⟩
        obtain ⟨y0, y1, y2⟩ := HSB.out w5 c5 (P4.out.trans p5)
        have P5 := Lib.hid (P4.out.trans p5)
        rcases hx with ⟨rfl, rfl, rfl, hx⟩ | ⟨rfl, -, hx, r2, r3, r4⟩ | ⟨-, hx, -⟩ | ⟨-, hx, -⟩
        · obtain hx2 : RM < (q : Int) := by
            rcases hx with ⟨-, hx⟩ | ⟨hx, -⟩
            · rw [HRM.out, ← HQB.out, HBD.out]; exact hx
            · omega
          have hcmp : decide ((q : Int) ≤ RM) = false := by simp; omega
          obtain ⟨o5, bx5, bc5, bk5⟩ := K4.out.act p5 (fun i hi => hi)
          have K5 : Hid (PK w w5 c5 gd mb gj gb (i + 1) d5 j5 x y base ls) := Lib.hid ⟨o5, S5.more (by omega), by have := K4.out.num; omega, bx5, bc5, bk5, K4.out.eqb, K4.out.eqr, by have := K4.out.len; omega⟩
          clear hx hx2 o5 bx5 bc5 bk5 p5 S5 n5 K4 K1
          go_wp2_with fail
          refine (HD39.out _).mono ?_
          rintro e w6 ⟨A6, k6, rfl, -, -, -, hb6⟩
          have K6 := Lib.hid (K5.out.grow hb6)
          generalize paint w5 c5 (fun _ => 0) = c6 at *
          clear hb6 K5 y0 y1 y2
          obtain ⟨z0, z1⟩ := K6.out.cells
          go_wp2_with fail
          refine (K6.out.shows (by omega)).mono ?_
          rintro e w9 ⟨rfl, hb9⟩
          have K9 := Lib.hid (K6.out.grow hb9)
          clear hb9 K6 z0 z1
          go_wp2_with fail
          refine (dead_js K9.out.js).mono ?_
          rintro e w10 ⟨rfl, rfl⟩
          go_wp2
          go_roundw
          case rel => exact ⟨i + 1, _, _, _, _, _, _, _, _, by omega, by go_num, rfl, K9⟩
          case measure => simp [intOf]; omega
        · have hx2 : (q : Int) ≤ RM := by rw [HRM.out, ← HQB.out, HBD.out]; exact hx
          have hcmp : decide ((q : Int) ≤ RM) = true := by simp; omega
          have HJN : Hid (j5.number ≤ i + 1 ∧ j5.base.b = base ∧ j5.recs.map (·.b) = ls ++ [datB sn sx]) := Lib.hid ⟨by have := K4.out.num; omega, by rw [r3]; exact K4.out.eqb, by rw [r4, K4.out.eqr]⟩
          clear hx hx2 r2 r3 r4
          obtain ⟨o5, bx5, bc5, bk5⟩ := K4.out.act p5 (fun i hi => hi)
          have O5 := Lib.hid o5
          have BX5 := Lib.hid bx5
          have BC5 := Lib.hid bc5
          have BK5 := Lib.hid bk5
          have LN5 := Lib.hid K4.out.len
          have S5 := Lib.hid (S5.more (b := 1000 * (i + 1)) (by omega))
          clear o5 bx5 bc5 bk5 p5 n5 K4 K1
          go_wp2_with fail
          refine (HD39.out _).mono ?_
          rintro e w6 ⟨A6, k6, rfl, -, -, -, hb6⟩
          have O6 := Lib.hid (O5.out.grow hb6 (fun _ => 0))
          have BC6 : Hid (paint w5 c5 (fun _ => 0) gb = 3) := Lib.hid ((paint_old (Array.getElem?_eq_some_iff.1 BX5.out).1).trans BC5.out)
          have BX6 := Lib.hid ((hb6.block gb (Array.getElem?_eq_some_iff.1 BX5.out).1).trans BX5.out)
          have BK6 := Lib.hid (BK5.out.grow hb6)
          have S6 := Lib.hid (S5.out.grow hb6 (fun _ => 0))
          obtain ⟨y0, y1, y2⟩ := HSB.out w6 _ (.grow P5.out hb6)
          generalize paint w5 c5 (fun _ => 0) = c6 at *
          clear hb6 O5 BC5 BX5 BK5 S5
          have z0 : w6.cell? ⟨gb, 0, none⟩ = some x := by rw [cell_of_row _ _ 0 _ _ _ BX6.out]; rfl
          have z1 : w6.cell? ⟨gb, 1, none⟩ = some y := by rw [cell_of_row _ _ 1 _ _ _ BX6.out]; rfl
          go_wp2_with fail
          refine (done_any 1 sn sx (.agg #[x, y]) base ls w6 c6 BK6.out (by have := LN5.out; omega) HSN.out).mono ?_
          rintro e w7 ⟨v7, rfl, hb7, bk7⟩
          obtain ⟨x7, y7, rfl⟩ := bk7.two
          have e1 : doneB 1 sn sx base ls = (base, ls ++ [datB sn sx]) := by unfold doneB; rw [if_pos rfl]
          rw [e1] at bk7
          have HRO := Lib.hid ((hb7.block gb (Array.getElem?_eq_some_iff.1 BX6.out).1).trans BX6.out)
          have K6 := Lib.hid (PK.store O6.out S6.out HJN.out.1 BX6.out BC6.out hb7 bk7 HJN.out.2.1 HJN.out.2.2 (by rw [List.length_append]; have := LN5.out; simp; omega))
          have CC7 : Hid (#[x7, y7].all (·.oneCell') = true) := Lib.hid bk7.one
          clear hb7 bk7 e1 O6 BC6 BX6 BK6 S6 y0 y1 y2 z0 z1
          go_wp2_with (first | (refine wpList_store_row rfl 39 _ _ rfl gb #[x7, y7] rfl rfl 39 _ HRO.out (by kernel_rfl) rfl CC7.out ?_; generalize w7.setRow gb #[x7, y7] = w8 at *; obtain ⟨z0, z1⟩ := K6.out.cells) | fail)
          refine (K6.out.shows (by omega)).mono ?_
          rintro e w9 ⟨rfl, hb9⟩
          have K9 := Lib.hid (K6.out.grow hb9)
          clear hb9 K6 z0 z1
          go_wp2_with fail
          refine (dead_js K9.out.js).mono ?_
          rintro e w10 ⟨rfl, rfl⟩
          go_wp2
          go_roundw
          case rel => exact ⟨i + 1, _, _, _, _, _, _, _, _, by omega, by go_num, rfl, K9⟩
          case measure => simp [intOf]; omega
        · omega
        · omega
      · by_cases k2 : sk = 2
        · subst k2
          clear k1
          go_wp2_with fail
          rw [← HW1.out, ← HGS.out]
          refine (does_js 1 2 gd mb gj (1000 * i) d j 2 sn sx W1 c1 K1.out.js (by omega) (by omega) (by omega) (by omega) (by have := K1.out.num; omega) HSN.out).mono ?_
          rintro e w5 ⟨x5, d5, j5, c5, rfl, p5, S5, n5, hx⟩
          obtain ⟨y0, y1, y2⟩ := HSB.out w5 c5 p5
          have K4 := K1
          clear x0 x1 x2
          rcases hx with ⟨rfl, rfl, rfl, hx⟩ | ⟨-, hx, -⟩ | ⟨rfl, -, hx, r2, r3, r4⟩ | ⟨-, -, hx, -⟩
          · have hx2 := hx
            obtain ⟨o5, bx5, bc5, bk5⟩ := K4.out.act p5 (fun i hi => hi)
            have K5 : Hid (PK w w5 c5 gd mb gj gb (i + 1) d5 j5 x y base ls) := Lib.hid ⟨o5, S5.more (by omega), by have := K4.out.num; omega, bx5, bc5, bk5, K4.out.eqb, K4.out.eqr, by have := K4.out.len; omega⟩
            clear hx hx2 o5 bx5 bc5 bk5 p5 S5 n5 K4 K1
            have K6 := K5
            clear K5
            obtain ⟨z0, z1⟩ := K6.out.cells
            go_wp2_with fail
            refine (K6.out.shows (by omega)).mono ?_
            rintro e w9 ⟨rfl, hb9⟩
            have K9 := Lib.hid (K6.out.grow hb9)
            clear hb9 K6 z0 z1
            go_wp2_with fail
            refine (dead_js K9.out.js).mono ?_
            rintro e w10 ⟨rfl, rfl⟩
            go_wp2
            go_roundw
            case rel => exact ⟨i + 1, _, _, _, _, _, _, _, _, by omega, by go_num, rfl, K9⟩
            case measure => simp [intOf]; omega
          · omega
          · have hx2 := hx
            have HJN : Hid (j5.number ≤ i + 1 ∧ j5.base.b = datB sn sx ∧ j5.recs.map (·.b) = []) := Lib.hid ⟨by have := K4.out.num; omega, r3, by rw [r4]; rfl⟩
            clear hx hx2 r2 r3 r4
            obtain ⟨o5, bx5, bc5, bk5⟩ := K4.out.act p5 (fun i hi => hi)
            have O5 := Lib.hid o5
            have BX5 := Lib.hid bx5
            have BC5 := Lib.hid bc5
            have BK5 := Lib.hid bk5
            have LN5 := Lib.hid K4.out.len
            have S5 := Lib.hid (S5.more (b := 1000 * (i + 1)) (by omega))
            clear o5 bx5 bc5 bk5 p5 n5 K4 K1
            have z0 : w5.cell? ⟨gb, 0, none⟩ = some x := by rw [cell_of_row _ _ 0 _ _ _ BX5.out]; rfl
            have z1 : w5.cell? ⟨gb, 1, none⟩ = some y := by rw [cell_of_row _ _ 1 _ _ _ BX5.out]; rfl
            go_wp2_with fail
            refine (done_any 2 sn sx (.agg #[x, y]) base ls w5 c5 BK5.out (by have := LN5.out; omega) HSN.out).mono ?_
            rintro e w7 ⟨v7, rfl, hb7, bk7⟩
            obtain ⟨x7, y7, rfl⟩ := bk7.two
            have e1 : doneB 2 sn sx base ls = (datB sn sx, []) := by unfold doneB; rw [if_neg (by omega), if_pos rfl]
            rw [e1] at bk7
            have HRO := Lib.hid ((hb7.block gb (Array.getElem?_eq_some_iff.1 BX5.out).1).trans BX5.out)
            have K6 := Lib.hid (PK.store O5.out S5.out HJN.out.1 BX5.out BC5.out hb7 bk7 HJN.out.2.1 HJN.out.2.2 (by simp))
            have CC7 : Hid (#[x7, y7].all (·.oneCell') = true) := Lib.hid bk7.one
            clear hb7 bk7 e1 O5 BC5 BX5 BK5 S5 y0 y1 y2 z0 z1
            go_wp2_with (first | (refine wpList_store_row rfl 39 _ _ rfl gb #[x7, y7] rfl rfl 39 _ HRO.out (by kernel_rfl) rfl CC7.out ?_; generalize w7.setRow gb #[x7, y7] = w8 at *; obtain ⟨z0, z1⟩ := K6.out.cells) | fail)
            refine (K6.out.shows (by omega)).mono ?_
            rintro e w9 ⟨rfl, hb9⟩
            have K9 := Lib.hid (K6.out.grow hb9)
            clear hb9 K6 z0 z1
            go_wp2_with fail
            refine (dead_js K9.out.js).mono ?_
            rintro e w10 ⟨rfl, rfl⟩
            go_wp2
            go_roundw
            case rel => exact ⟨i + 1, _, _, _, _, _, _, _, _, by omega, by go_num, rfl, K9⟩
            case measure => simp [intOf]; omega
          · omega
        · by_cases k3 : sk = 3
          · subst k3
            clear k1 k2
            go_wp2_with fail
            rw [← HW1.out, ← HGS.out]
            refine (open_js 1 2 gd mb (1000 * i) d _ _ _ _ _ W1 c1 K1.out.js.disk (by omega) (by omega) (by omega) K1.out.js.calm K1.out.js.inv).mono ?_
            rintro e w5 ⟨gk, jk, c5, rfl, p5, S5, q1, q2, q3, q4, q5⟩
            obtain ⟨o5, bx5, bc5, bk5⟩ := K1.out.act p5 (fun i hi => .inr hi)
            have K6 : Hid (PK w w5 c5 gd mb gk gb (i + 1) d jk x y base ls) := Lib.hid ⟨o5, S5.more (by omega), by have := K1.out.num; omega, bx5, bc5, bk5, q3.trans K1.out.eqb, q4.trans K1.out.eqr, by have := K1.out.len; omega⟩
            clear o5 bx5 bc5 bk5 p5 S5 q1 q2 q3 q4 q5 K1 x0 x1 x2
            obtain ⟨z0, z1⟩ := K6.out.cells
            go_wp2_with fail
            refine (K6.out.shows (by omega)).mono ?_
            rintro e w9 ⟨rfl, hb9⟩
            have K9 := Lib.hid (K6.out.grow hb9)
            clear hb9 K6 z0 z1
            go_wp2_with fail
            refine (dead_js K9.out.js).mono ?_
            rintro e w10 ⟨rfl, rfl⟩
            go_wp2
            go_roundw
            case rel => exact ⟨i + 1, _, _, _, _, _, _, _, _, by omega, by go_num, rfl, K9⟩
            case measure => simp [intOf]; omega
          · have f1 : (sk == 1) = false := by simpa using k1
            have f2 : (sk == 2) = false := by simpa using k2
            have f3 : (sk == 3) = false := by simpa using k3
            have K6 : Hid (PK w W1 c1 gd mb gj gb (i + 1) d j x y base ls) := Lib.hid ⟨K1.out.old, K1.out.js.more (by omega), by have := K1.out.num; omega, K1.out.box, K1.out.bcol, K1.out.bk, K1.out.eqb, K1.out.eqr, by have := K1.out.len; omega⟩
            clear k1 k2 k3 K1
            obtain ⟨z0, z1⟩ := K6.out.cells
            rw [HW1.out] at z0 z1
            go_wp2_with fail
            rw [← HW1.out]
            refine (K6.out.shows (by omega)).mono ?_
            rintro e w9 ⟨rfl, hb9⟩
            have K9 := Lib.hid (K6.out.grow hb9)
            clear hb9 K6 z0 z1
            go_wp2_with fail
            refine (dead_js K9.out.js).mono ?_
            rintro e w10 ⟨rfl, rfl⟩
            go_wp2
            go_roundw
            case rel => exact ⟨i + 1, _, _, _, _, _, _, _, _, by omega, by go_num, rfl, K9⟩
            case measure => simp [intOf]; omega
    · obtain rfl : i = l := by omega
      go_wp2_with fail
      refine (jawake_any wr).mono ?_
      rintro e w2 ⟨rfl, hb2⟩
      have O2 := Lib.hid (HK.out.old.below.trans (hb2.mono HK.out.old.below.size))
      clear hb2
      go_wp2
      go_ret
      exact ⟨rfl, O2.out⟩
theorem jplays_main (n : Int) (A : Option Addr) (c : Nat) (ss : List S3) (w : World) (hra : RT w A ss) (hwa : ∀ s ∈ ss, s.wf) :
    Calls Try.prog 10 #[.int .i64 n, .slice A ss.length c] w fun e w' => e = .returned (.bool true) ∧ Below w.heap.size w w' := by
  by_cases h : 8 ≤ n ∧ n ≤ 2000 ∧ ss.length ≤ 40
  · obtain ⟨N, rfl⟩ := Int.eq_ofNat_of_zero_le (show 0 ≤ n by omega)
    exact jplays_walk N A c ss w hra hwa ⟨by omega, by omega⟩ h.2.2
  · obtain ⟨l, hl⟩ : ∃ m, m = ss.length := ⟨_, rfl⟩
    rw [← hl] at h ⊢
    clear hl hra hwa
    have hz : (decide (n < 8) || (decide (2000 < n) || (decide (40 < (l : Int))))) = true := by
      simp only [Bool.or_eq_true, decide_eq_true_eq]
      omega
    clear h 
    cases h1 : decide (n < 8) with
    | true =>
      clear hz
      go_enter Try.func10, Try.ntmps10
      go_wp2_with fail
      refine (jawake_any w).mono ?_
      rintro e w1 ⟨rfl, hb⟩
      have HB := Lib.hid hb
      clear hb
      go_wp2
      go_ret
      exact ⟨rfl, HB.out⟩
    | false =>
      rw [h1, Bool.false_or] at hz
      cases h2 : decide (2000 < n) with
      | true =>
        clear hz
        go_enter Try.func10, Try.ntmps10
        go_wp2_with fail
        refine (jawake_any w).mono ?_
        rintro e w1 ⟨rfl, hb⟩
        have HB := Lib.hid hb
        clear hb
        go_wp2
        go_ret
        exact ⟨rfl, HB.out⟩
      | false =>
        rw [h2, Bool.false_or] at hz
        go_enter Try.func10, Try.ntmps10
        go_wp2_with fail
        refine (jawake_any w).mono ?_
        rintro e w1 ⟨rfl, hb⟩
        have HB := Lib.hid hb
        clear hb
        go_wp2
        go_ret
        exact ⟨rfl, HB.out⟩
end Go.Proofs.Ytdldclakkplliaa
