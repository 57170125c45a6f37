/- The walk of JournalKeeps. Conditions: none. -/
import Derived.Test.YtdldclakkplliaaJOwn
namespace Go.Proofs.Ytdldclakkplliaa
set_option linter.unusedVariables false
set_option linter.unusedSimpArgs false
open Go.RowKit

/-- What the law keeps. -/
structure KK (w wr : World) (col : Nat → Nat) (gd mb gj a : Nat) (d : DK) (j : JK) (base : List UInt8) (ls : List (List UInt8)) : Prop where
  old : Old w wr col
  js : JS wr col 1 2 gd mb gj a d j
  num : j.number ≤ 1
  eqb : j.base.b = base
  eqr : j.recs.map (·.b) = ls
  n2000 : d.n = 2000
  endp : j.endp ≤ 600 + 20 * ls.length + tot ls
theorem tot_append (a b : List (List UInt8)) : tot (a ++ b) = tot a + tot b := by simp [tot]
theorem tot_take (ls : List (List UInt8)) (i : Nat) : tot (ls.take i) ≤ tot ls := by
  have := tot_append (ls.take i) (ls.drop i)
  rw [List.take_append_drop] at this
  omega
theorem KK.path {J : Nat → Prop} {w wr w' : World} {col col' : Nat → Nat} {gd mb gj a : Nat} {d : DK} {j : JK} {base : List UInt8} {ls : List (List UInt8)} (h : KK w wr col gd mb gj a d j base ls) (p : Path J wr col w' col') (hJ : ∀ i, J i → i ≠ 0 ∧ i ≠ 1 ∧ i ≠ 2) : KK w w' col' gd mb gj a d j base ls :=
  ⟨h.old.path p fun i hi => (hJ i hi).1, h.js.path p hJ, h.num, h.eqb, h.eqr, h.n2000, h.endp⟩
theorem KK.grow {w wr w' : World} {col : Nat → Nat} {gd mb gj a : Nat} {d : DK} {j : JK} {base : List UInt8} {ls : List (List UInt8)} (h : KK w wr col gd mb gj a d j base ls) (hb : Below wr.heap.size wr w') (new : Nat → Nat) : KK w w' (paint wr col new) gd mb gj a d j base ls :=
  ⟨h.old.grow hb new, h.js.grow hb new, h.num, h.eqb, h.eqr, h.n2000, h.endp⟩
theorem KK.set {w wr : World} {col : Nat → Nat} {gd mb gj a g k id : Nat} {d : DK} {j : JK} {base : List UInt8} {ls : List (List UInt8)} (h : KK w wr col gd mb gj a d j base ls) (hc : col g = id) (hi : id ≠ 0 ∧ id ≠ 1 ∧ id ≠ 2) (v : Value) : KK w (wr.setCell ⟨g, k, none⟩ v) col gd mb gj a d j base ls :=
  h.path (J := Only id) (.step rfl .refl (set3 hc v)) (fun i e => by have : i = id := e; rw [this]; exact hi)
theorem Own3.grow {w w' : World} {col : Nat → Nat} {A : Option Addr} {n cap : Nat} (h : Own3 w col A n cap) (hb : Below w.heap.size w w') (new : Nat → Nat) : Own3 w' (paint w col new) A n cap := by
  obtain ⟨bs, hl, ho, hc⟩ := h
  exact ⟨bs, hl, ho.below hb, fun k e => (paint_old (ho.row.lt k e).2).trans (hc k e)⟩
/-- Records that were told: the outer row in colour 5, the rows of bytes in colour 4. -/
structure YY (w : World) (col : Nat → Nat) (v : Value) (rs : List Wr) : Prop where
  own : w.ownsRow 0 22 1 v rs.length (rowL rs)
  blk : ∀ k, v.ownBlock = some k → col k = 5
  el : ∀ s ∈ rs, El w col s
theorem YY.path {J : Nat → Prop} {w w' : World} {col col' : Nat → Nat} {v : Value} {rs : List Wr} (h : YY w col v rs) (p : Path J w col w' col') (hJ : ∀ i, J i → i ≠ 4 ∧ i ≠ 5) : YY w' col' v rs := by
  have hk : ∀ k, v.ownBlock = some k → w'.heap[k]? = w.heap[k]? ∧ col' k = col k := fun k e => by
    have := p.kept (k := k) (h.own.lt k e).2 (fun i hi => by rw [h.blk k e]; exact (hJ i hi).2)
    exact ⟨this.1, this.2.1⟩
  exact ⟨own_keep h.own fun k e => (hk k e).1, fun k e => (hk k e).2.trans (h.blk k e), fun s hs => (h.el s hs).path p fun i hi => (hJ i hi).1⟩
theorem YY.set {w : World} {col : Nat → Nat} {v : Value} {rs : List Wr} {g k : Nat} (h : YY w col v rs) (hc : col g = 4) (x : Int) (hx : 0 ≤ x) : YY (w.setCell ⟨g, k, none⟩ (.int .u8 x)) col v rs :=
  ⟨own_keep h.own fun i e => Below.heap_setCell _ _ _ _ (by show i ≠ g; intro e2; have := h.blk i e; rw [e2, hc] at this; omega), h.blk, fun s hs => (h.el s hs).set g k x hx⟩
theorem yy_new {w w' : World} {col : Nat → Nat} {v : Value} {ls : List (List UInt8)} {rs : List Wr} (h : NewL w w' v ls rs) : YY w' (paint w col (fun k => if v.ownBlock = some k then 5 else 4)) v rs :=
  ⟨own_mono h.own (Nat.zero_le _), fun k e => (paint_new (h.own.lt k e).1).trans (by show (if _ then _ else _) = 5; rw [if_pos e]), fun s hs => el_new (h.at_ s hs).2.1 (h.at_ s hs).2.2.2 fun hp ad e => ⟨((h.at_ s hs).2.2.1 hp ad e).1, by show (if _ then _ else _) = 4; rw [if_neg ((h.at_ s hs).2.2.1 hp ad e).2]⟩⟩
theorem Only.is {a : Nat} (i : Nat) (h : Only a i) : i = a := h
set_option maxRecDepth 100000 in
set_option maxHeartbeats 16000000 in
theorem jkeeps_walk (A L : Option Addr) (ca cl : Nat) (b0 : List UInt8) (ls : List (List UInt8)) (w : World) (hr : RB w A b0) (hs : SV A b0.length ca) (hrl : RL w L ls) (h1 : b0.length ≤ 500) :
    Calls Try.prog 3 #[.slice A b0.length ca, .slice L ls.length cl] w fun e w' => e = .returned (.bool true) ∧ Below w.heap.size w w' := by
  have HR := Lib.hid hr
  have HS := Lib.hid hs
  have HRL := Lib.hid hrl
  obtain ⟨n0, hn0⟩ : ∃ n, n = b0.length := ⟨_, rfl⟩
  obtain ⟨nl, hnl⟩ : ∃ n, n = ls.length := ⟨_, rfl⟩
  have HN0 := Lib.hid hn0.symm
  have HNL := Lib.hid hnl.symm
  have hby := weigh_any L cl ls w hrl
  rw [← hn0] at h1 ⊢
  rw [← hnl] at hby ⊢
  have HBY := Lib.hid hby
  have hz1 : decide (500 < (n0 : Int)) = false := by simp; omega
  clear hr hs hrl hn0 hnl hby
  go_enter Try.func3, Try.ntmps3
  go_wp2_with fail
  refine HBY.out.mono ?_
  rintro e W1 ⟨v0, rfl, hv, hW1⟩
  have H2 := Lib.hid hv
  have HW1 := Lib.hid hW1
  have O0 := Lib.hid ((Old.init w).grow hW1 (fun _ => 0))
  generalize paint w (fun _ => 0) (fun _ => 0) = c0 at *
  clear hv hW1 HBY
  by_cases hv0 : v0 ≤ 2000
  rotate_left
  · have hz2 : decide (2000 < v0) = true := by simp; omega
    go_wp2_with fail
    refine (jawake_any W1).mono ?_
    rintro e w2 ⟨rfl, hb2⟩
    have O2 := Lib.hid (bel_then HW1.out hb2)
    clear hb2
    go_wp2
    go_ret
    exact ⟨rfl, O2.out⟩
  have hz2 : decide (2000 < v0) = false := by simp; omega
  have H2 : Hid (tot ls ≤ 2000) := Lib.hid (by have := H2.out hv0; omega)
  by_cases h3 : nl ≤ 30
  rotate_left
  · have hz3 : decide (30 < (nl : Int)) = true := by simp; omega
    go_wp2_with fail
    refine (jawake_any W1).mono ?_
    rintro e w2 ⟨rfl, hb2⟩
    have O2 := Lib.hid (bel_then HW1.out hb2)
    clear hb2
    go_wp2
    go_ret
    exact ⟨rfl, O2.out⟩
  have hz3 : decide (30 < (nl : Int)) = false := by simp; omega
  go_wp2_with fail
  refine (new_any 1 2000 (by omega) W1 c0 ⟨by omega, by omega⟩).mono ?_
  rintro e w1 ⟨gd, mb, c1, rfl, s1, h1'⟩
  have O1 := Lib.hid (O0.out.step s1 (by omega))
  have D1 := Lib.hid h1'
  clear s1 h1' hz1 hz2 hz3
  go_wp2_with fail
  refine (open_js 1 2 gd mb 0 (newDK 2000) 0 0 [] [] 64 w1 c1 D1.out (by omega) (by omega) (by omega) (Calm.new 2000 ⟨by omega, by omega⟩) (HInv.new 2000 (by omega))).mono ?_
  rintro e w2 ⟨gj, j0, c2, rfl, p2, S2, q1, q2, q3, q4, q5⟩
  have O2 := Lib.hid (O1.out.path p2 (Only.nz (by omega)))
  have J2 := Lib.hid S2
  have HJ2 : Hid (j0.number = 0 ∧ j0.endp = 64) := Lib.hid ⟨q2, q5⟩
  clear p2 S2 q1 q2 q3 q4 q5 O1 D1
  go_wp2_with (first | (at_builtin; go_loud (refine wp_app_bytes rfl _ _ 22 rfl w2.heap.size 5 Try.underlying22 info5 _ [] rfl (OB.empty w2 w2.heap.size 5 (Nat.le_refl _) _ rfl) A ca b0 (by rw [HN0.out]; rfl) HS.out.2 ((HR.out.below O2.out.below).alloc _) (by rw [HN0.out]; simp; omega) (by simp) ?_); intro v3 w3 ho hg _; rw [List.nil_append] at ho; have HO := Lib.hid ho; have HB3 := Lib.hid (bel_grown (bel_alloc (Below.refl _ _) _) hg (fun k e => by simp [Value.ownBlock, Act.eval] at e; omega)); clear ho hg) | fail)
  obtain ⟨A3, k3, e3, sv3, rb3⟩ := HO.out.reads
  rw [HN0.out] at e3 sv3
  subst e3
  have OW3 : Hid (Own3 w3 (paint w2 c2 (fun _ => 3)) A3 n0 k3) := Lib.hid (own3_new HO.out HN0.out (Nat.le_refl _) (fun _ _ => rfl))
  have R3 : Hid (RC w3 (paint w2 c2 (fun _ => 3)) 3 A3 b0) := Lib.hid (RC.new 3 rb3 (fun ad e => HO.out.base_ ad.block (by subst e; rfl)))
  have O3 := Lib.hid (O2.out.grow HB3.out (fun _ => 3))
  have J3 := Lib.hid (J2.out.grow HB3.out (fun _ => 3))
  generalize paint w2 c2 (fun _ => 3) = c3 at *
  have hrs := reset_jsc 1 2 gd mb gj 0 (newDK 2000) j0 A3 k3 b0 w3 c3 J3.out (by omega) (by omega) (by omega) (cl := 3) ⟨by omega, by omega⟩ R3.out (by rw [HN0.out]; exact sv3) (by omega) (by rw [HJ2.out.1]; omega) (by rw [HN0.out]; omega)
  rw [HN0.out] at hrs
  have HRS := Lib.hid hrs
  clear hrs rb3 sv3 HO HB3 O2 J2 R3
  go_wp2_with fail
  refine HRS.out.mono ?_
  rintro e w4 ⟨x, d4, j4, c4, rfl, p4, S4, n4, hx⟩
  obtain ⟨rfl, -, r2, r3, r4, r5⟩ : x = 0 ∧ _ := by
    rcases hx with ⟨-, -, -, h4⟩ | hx
    · exfalso
      rw [show (newDK 2000).n = 2000 from rfl] at h4
      omega
    · exact hx
  have hT : tot [] = 0 := rfl
  have HKK : Hid (KK w w4 c4 gd mb gj 1000 d4 j4 b0 []) := Lib.hid ⟨O3.out.path p4 (Two.nz (by omega) (by omega)), S4.more (by omega), by rw [r2, HJ2.out.1]; omega, r3, by rw [r5]; rfl, n4, by rw [r4]; simp; omega⟩
  have OW4 := Lib.hid (OW3.out.path p4 (fun i hi => hi.elim (fun e => by omega) (fun e => by omega)))
  clear p4 S4 n4 hx r2 r3 r4 r5 hT O3 J3 OW3 HRS HJ2
  go_wp2
  go_loopw [10] (fun u10 w' => ∃ (k : Nat), k ≤ n0 ∧ u10 = .int .i64 k ∧ Hid (Own3 w' c4 A3 n0 k3) ∧ Hid (KK w w' c4 gd mb gj 1000 d4 j4 b0 [])) (fun u10 _ => n0 - (intOf u10).toNat)
  case atStart => exact ⟨0, by omega, rfl, OW4, HKK⟩
  case round =>
    clear OW4 HKK
    obtain ⟨k, hk, rfl, HO, HK⟩ := hrel
    by_cases hlt : k < n0
    · obtain ⟨g, xb, rfl, hcell, hfr, hcg, ho2⟩ := HO.out.at_ k hlt
      have HO2 := Lib.hid ho2
      have HK2 := Lib.hid (HK.out.set hcg (by omega) (k := k) (.int .u8 (((xb : Int) + 1) % 256)))
      clear ho2 hcg HO HK
      go_wp2
      go_roundw
      case rel => exact ⟨k + 1, by omega, by go_num, HO2, HK2⟩
      case measure => simp [intOf]; omega
    · obtain rfl : n0 = k := by omega
      have HKK : Hid (KK w wr c4 gd mb gj (1000 * (0 + 1)) d4 j4 b0 (ls.take 0)) := HK
      clear HK HO
      go_wp2
      go_loopw [11, 12, 13] (fun u11 u12 u13 w' => ∃ (i : Nat) (col : Nat → Nat) (d : DK) (j : JK), i ≤ nl ∧ u11 = .int .i64 i ∧ Hid (KK w w' col gd mb gj (1000 * (i + 1)) d j b0 (ls.take i))) (fun u11 _ _ _ => nl - (intOf u11).toNat)
      case atStart => exact ⟨0, _, _, _, by omega, rfl, HKK⟩
      case round =>
        clear HKK
        obtain ⟨i, col, d, j, hi, rfl, HK⟩ := hrel
        by_cases hin : i < nl
        · obtain ⟨ad, Ai, ci, bi, rfl, hb, c0, svi, rbi⟩ := (HRL.out.below HK.out.old.below).at_ i (by rw [HNL.out]; exact hin)
          obtain ⟨bl, hbl⟩ : ∃ l, l = bi.length := ⟨_, rfl⟩
          have HBL := Lib.hid hbl.symm
          rw [← hbl] at c0
          have SVI := Lib.hid svi
          have RBI := Lib.hid rbi
          have hT : tot (ls.take (i + 1)) = tot (ls.take i) + bl + 1 := by
            rw [List.take_add_one, List.getElem?_eq_getElem (by rw [HNL.out]; exact hin), hbl, hb, List.getD_eq_getElem?_getD, List.getElem?_eq_getElem (by rw [HNL.out]; exact hin)]
            exact tot_snoc _ _
          have HTK : Hid (ls.take (i + 1) = ls.take i ++ [bi]) := Lib.hid (by
            rw [List.take_add_one, List.getElem?_eq_getElem (by rw [HNL.out]; exact hin), hb, List.getD_eq_getElem?_getD, List.getElem?_eq_getElem (by rw [HNL.out]; exact hin)]
            rfl)
          have htt := tot_take ls (i + 1)
          have hbl2 : bl ≤ 2000 := by have := H2.out; omega
          have HTT : Hid (tot (ls.take (i + 1)) = tot (ls.take i) + bl + 1 ∧ tot (ls.take i) + bl + 1 ≤ 2000 ∧ (ls.take i).length = i) := Lib.hid ⟨hT, by have := H2.out; omega, by rw [List.length_take, HNL.out]; omega⟩
          have c0 := ((bel_alloc (Below.refl wr.heap.size wr) (.cells #[] 5)).cell (World.block_lt_of_cell? _ _ c0)).trans c0
          clear hb hbl svi rbi hT htt
          go_wp2_with (first | (at_builtin; go_loud (refine wp_app_bytes rfl _ _ 22 rfl wr.heap.size 5 Try.underlying22 info5 _ [] rfl (OB.empty wr wr.heap.size 5 (Nat.le_refl _) _ rfl) Ai ci bi (by rw [HBL.out]; rfl) SVI.out.2 (RBI.out.alloc _) (by rw [HBL.out]; simp; omega) (by simp) ?_); intro v5 w5 ho hg _; rw [List.nil_append] at ho; have HO := Lib.hid ho; have HB5 := Lib.hid (bel_grown (bel_alloc (Below.refl _ _) _) hg (fun k e => by simp [Value.ownBlock, Act.eval] at e; omega)); clear ho hg) | fail)
          obtain ⟨A5, k5, e5, sv5, rb5⟩ := HO.out.reads
          rw [HBL.out] at e5 sv5
          subst e5
          have OW5 : Hid (Own3 w5 (paint wr col (fun _ => 3)) A5 bl k5) := Lib.hid (own3_new HO.out HBL.out (Nat.le_refl _) (fun _ _ => rfl))
          have R5 : Hid (RC w5 (paint wr col (fun _ => 3)) 3 A5 bi) := Lib.hid (RC.new 3 rb5 (fun ad e => HO.out.base_ ad.block (by subst e; rfl)))
          have K5 := Lib.hid (HK.out.grow HB5.out (fun _ => 3))
          generalize paint wr col (fun _ => 3) = c5 at *
          have hap := append_jsc 1 2 gd mb gj (1000 * (i + 1)) d j A5 k5 bi w5 c5 K5.out.js (by omega) (by omega) (by omega) (cl := 3) ⟨by omega, by omega⟩ R5.out (by rw [HBL.out]; exact sv5) (by omega) (by have := K5.out.num; omega) (by rw [HBL.out]; omega)
          rw [HBL.out] at hap
          have HAP := Lib.hid hap
          clear hap rb5 sv5 HO HB5 HK R5 c0 SVI RBI
          go_wp2_with fail
          refine HAP.out.mono ?_
          rintro e w6 ⟨x, d6, j6, c6, rfl, p6, S6, n6, hx⟩
          have d2 := K5.out.n2000
          have hend := K5.out.endp
          have hpl := placeN_le j.endp
          have htt := HTT.out
          obtain ⟨rfl, -, r2, r3, r4, r5⟩ : x = 0 ∧ _ := by
            rcases hx with ⟨-, -, -, h4⟩ | hx
            · exfalso
              unfold roomN at h4
              rw [htt.2.2] at hend
              omega
            · exact hx
          have HKK : Hid (KK w w6 c6 gd mb gj (1000 * (i + 1 + 1)) d6 j6 b0 (ls.take (i + 1))) := Lib.hid ⟨K5.out.old.path p6 (Two.nz (by omega) (by omega)), S6.more (by omega), by rw [r2]; exact K5.out.num, by rw [r3]; exact K5.out.eqb, by rw [r5, K5.out.eqr, HTK.out], by omega, by
            have e1 : (ls.take (i + 1)).length = i + 1 := by rw [HTK.out, List.length_append, htt.2.2]; rfl
            rw [e1, htt.1]
            rw [htt.2.2] at hend
            omega⟩
          have OW6 := Lib.hid (OW5.out.path p6 (fun i hi => hi.elim (fun e => by omega) (fun e => by omega)))
          clear p6 S6 n6 hx d2 hend hpl htt r2 r3 r4 r5 K5 OW5 HAP
          go_wp2
          go_loopw [13] (fun u13 w' => ∃ (k : Nat), k ≤ bl ∧ u13 = .int .i64 k ∧ Hid (Own3 w' c6 A5 bl k5) ∧ Hid (KK w w' c6 gd mb gj (1000 * (i + 1 + 1)) d6 j6 b0 (ls.take (i + 1)))) (fun u13 _ => bl - (intOf u13).toNat)
          case atStart => exact ⟨0, by omega, rfl, OW6, HKK⟩
          case round =>
            clear OW6 HKK
            obtain ⟨k2, hk2, rfl, HO, HK⟩ := hrel
            by_cases hlt : k2 < bl
            · obtain ⟨g, xb, rfl, hcell, hfr, hcg, ho2⟩ := HO.out.at_ k2 hlt
              have HO2 := Lib.hid ho2
              have HK2 := Lib.hid (HK.out.set hcg (by omega) (k := k2) (.int .u8 (((xb : Int) + 1) % 256)))
              clear ho2 hcg HO HK
              go_wp2
              go_roundw
              case rel => exact ⟨k2 + 1, by omega, by go_num, HO2, HK2⟩
              case measure => simp [intOf]; omega
            · obtain rfl : k2 = bl := by omega
              go_wp2
              go_roundw
              case rel => exact ⟨i + 1, c6, d6, j6, by omega, by go_num, HK⟩
              case measure => simp [intOf]; omega
        · obtain rfl : i = nl := by omega
          have HLS : Hid (ls.take i = ls) := Lib.hid (by rw [← HNL.out, List.take_length])
          have HK0 : Hid (KK w wr col gd mb gj (1000 * (i + 1)) d j b0 ls) := Lib.hid (by have := HK.out; rw [HLS.out] at this; exact this)
          clear HK HLS
          go_wp2_with fail
          refine (base_js HK0.out.js).mono ?_
          rintro e w5 ⟨v5, rfl, ob5, hb5⟩
          obtain ⟨A5, k5, e5, -, -⟩ := ob5.reads
          rw [HK0.out.eqb, HN0.out] at e5
          subst e5
          have OW5 : Hid (Own3 w5 (paint wr col (fun _ => 3)) A5 n0 k5) := Lib.hid (own3_new ob5 (by rw [HK0.out.eqb, HN0.out]) (Nat.le_refl _) (fun _ _ => rfl))
          have K5 := Lib.hid (HK0.out.grow hb5 (fun _ => 3))
          generalize paint wr col (fun _ => 3) = c5 at *
          clear ob5 hb5 HK0
          go_wp2_with fail
          refine (records_js K5.out.js).mono ?_
          rintro e w6 ⟨v6, rs, rfl, nl6, hb6⟩
          have hrl6 : rs.length = i := by have := congrArg List.length nl6.eq; rw [List.length_map, K5.out.eqr, HNL.out] at this; exact this
          have HY6 := Lib.hid (yy_new (col := c5) nl6)
          have OW6 := Lib.hid (OW5.out.grow hb6 (fun k => if v6.ownBlock = some k then 5 else 4))
          have K6 := Lib.hid (K5.out.grow hb6 (fun k => if v6.ownBlock = some k then 5 else 4))
          generalize paint w5 c5 (fun k => if v6.ownBlock = some k then 5 else 4) = c6 at *
          obtain ⟨A6, k6, e6, -, -, -⟩ := own_FL nl6.own
          rw [hrl6] at e6
          subst e6
          have HRS := Lib.hid hrl6
          have HLEN : Hid (∀ s ∈ rs, s.b.length ≤ 9223372036854775807) := Lib.hid (fun s hs => (nl6.at_ s hs).2.1.len)
          clear nl6 hb6 K5 OW5 hrl6
          go_wp2
          go_loopw [16] (fun u16 w' => ∃ (k : Nat), k ≤ n0 ∧ u16 = .int .i64 k ∧ Hid (Own3 w' c6 A5 n0 k5) ∧ Hid (KK w w' c6 gd mb gj (1000 * (i + 1)) d j b0 ls) ∧ Hid (YY w' c6 (.slice A6 i k6) rs)) (fun u16 _ => n0 - (intOf u16).toNat)
          case atStart => exact ⟨0, by omega, rfl, OW6, K6, HY6⟩
          case round =>
            clear OW6 K6 HY6
            obtain ⟨k, hk, rfl, HO, HK, HY⟩ := hrel
            by_cases hlt : k < n0
            · obtain ⟨g, xb, rfl, hcell, hfr, hcg, ho2⟩ := HO.out.at_ k hlt
              have HO2 := Lib.hid ho2
              have HK2 := Lib.hid (HK.out.set hcg (by omega) (k := k) (.int .u8 (((xb : Int) + 1) % 256)))
              have HY2 := Lib.hid (HY.out.path (J := Only 3) (.step rfl .refl (set3 (k := k) hcg (.int .u8 (((xb : Int) + 1) % 256)))) (fun i e => by have := Only.is i e; omega))
              clear ho2 hcg HO HK HY
              go_wp2
              go_roundw
              case rel => exact ⟨k + 1, by omega, by go_num, HO2, HK2, HY2⟩
              case measure => simp [intOf]; omega
            · obtain rfl : k = n0 := by omega
              clear HO
              go_wp2
              go_loopw [17, 18] (fun u17 u18 w' => ∃ (m : Nat), m ≤ i ∧ u17 = .int .i64 m ∧ Hid (KK w w' c6 gd mb gj (1000 * (i + 1)) d j b0 ls) ∧ Hid (YY w' c6 (.slice A6 i k6) rs)) (fun u17 _ _ => i - (intOf u17).toNat)
              case atStart => exact ⟨0, by omega, rfl, HK, HY⟩
              case round =>
                clear HK HY
                obtain ⟨m, hm, rfl, HK, HY⟩ := hrel
                by_cases hmi : m < i
                · obtain ⟨s, hs⟩ : ∃ s, rs[m]? = some s := ⟨_, List.getElem?_eq_getElem (by rw [HRS.out]; exact hmi)⟩
                  obtain ⟨sl, hsl⟩ : ∃ l, l = s.b.length := ⟨_, rfl⟩
                  have hsl2 : sl ≤ 9223372036854775807 := by rw [hsl]; exact HLEN.out s (List.mem_of_getElem? hs)
                  have HSM := Lib.hid (List.mem_of_getElem? hs)
                  have HSL := Lib.hid hsl
                  have HCE : Hid (∀ (X : World), YY X c6 (.slice A6 i k6) rs → ∃ g6, A6 = some ⟨g6, 0, none⟩ ∧ X.cell? ⟨g6, m, none⟩ = some (.slice s.A sl s.c)) := Lib.hid (fun X hX => by
                    obtain ⟨A7, k7, e7, -, -, hf⟩ := own_FL hX.own
                    cases e7
                    obtain ⟨g6, e, hc⟩ := hf m s hs
                    exact ⟨g6, e, by rw [hc, hsl]; rfl⟩)
                  clear hs hsl
                  go_wp2
                  go_loopw [18] (fun u18 w' => ∃ (k2 : Nat), k2 ≤ sl ∧ u18 = .int .i64 k2 ∧ Hid (KK w w' c6 gd mb gj (1000 * (i + 1)) d j b0 ls) ∧ Hid (YY w' c6 (.slice A6 i k6) rs)) (fun u18 _ => sl - (intOf u18).toNat)
                  case atStart => exact ⟨0, by omega, rfl, HK, HY⟩
                  case round =>
                    clear HK HY
                    obtain ⟨k2, hk2, rfl, HK, HY⟩ := hrel
                    obtain ⟨g6, rfl, z6⟩ := HCE.out wr HY.out
                    by_cases hlt : k2 < sl
                    · obtain ⟨g, xb, esA, hcell, hfr, hcg⟩ := (HY.out.el s HSM.out).at_ k2 (by rw [← HSL.out]; exact hlt)
                      rw [esA] at z6
                      have HK2 := Lib.hid (HK.out.set hcg (by omega) (k := k2) (.int .u8 (((xb : Int) + 1) % 256)))
                      have HY2 := Lib.hid (HY.out.set (k := k2) hcg (((xb : Int) + 1) % 256) (by omega))
                      clear hcg esA HK HY
                      go_wp2
                      go_roundw
                      case rel => exact ⟨k2 + 1, by omega, by go_num, HK2, HY2⟩
                      case measure => simp [intOf]; omega
                    · obtain rfl : k2 = sl := by omega
                      go_wp2
                      go_roundw
                      case rel => exact ⟨m + 1, by omega, by go_num, HK, HY⟩
                      case measure => simp [intOf]; omega
                · obtain rfl : m = i := by omega
                  clear HY
                  go_wp2_with fail
                  refine (crash_js 1 7 gd mb (1000 * (m + 1)) d none 0 [] _ _ _ _ _ wr c6 HK.out.js.disk (fun _ _ _ => RI.nil _ _) (by omega) (by omega) HK.out.js.calm (by omega) HK.out.js.inv (fun x hx => by simp at hx)).mono ?_
                  rintro e w8 ⟨ge, me, de, c8, rfl, s8, h8, k8, i8, n8⟩
                  have K8 := Lib.hid (HK.out.path (J := Only 7) (.step rfl .refl s8) (fun i e => by have := Only.is i e; omega))
                  have D8 := Lib.hid h8
                  have C8 := Lib.hid k8
                  have I8 := Lib.hid i8
                  clear s8 h8 k8 i8 n8 HK
                  go_wp2_with fail
                  refine (open_js 7 8 ge me (1000 * (m + 1)) de _ _ _ _ _ w8 c8 D8.out (by omega) (by omega) (by omega) C8.out I8.out).mono ?_
                  rintro e w9 ⟨gk, jk, c9, rfl, p9, S9, q1, q2, q3, q4, q5⟩
                  have K9 := Lib.hid (K8.out.path p9 (fun i e => by have := Only.is i e; omega))
                  have S9 := Lib.hid S9
                  have HQ9 : Hid (jk.base.b = b0 ∧ jk.recs.map (·.b) = ls) := Lib.hid ⟨q3.trans K8.out.eqb, q4.trans K8.out.eqr⟩
                  clear p9 q1 q2 q3 q4 q5 K8 D8 C8 I8
                  have hsh := shows_js K9.out.js A L ca cl b0 ls (HR.out.below K9.out.old.below) (HRL.out.below K9.out.old.below)
                  rw [decide_eq_true ⟨K9.out.eqb, K9.out.eqr⟩, HN0.out, HNL.out] at hsh
                  have HSH := Lib.hid hsh
                  clear hsh
                  go_wp2_with fail
                  refine HSH.out.mono ?_
                  rintro e w10 ⟨rfl, hb10⟩
                  have K10 := Lib.hid (K9.out.grow hb10 (fun _ => 0))
                  have S10 := Lib.hid (S9.out.grow hb10 (fun _ => 0))
                  have hsh := shows_js S10.out A L ca cl b0 ls (HR.out.below K10.out.old.below) (HRL.out.below K10.out.old.below)
                  rw [decide_eq_true HQ9.out, HN0.out, HNL.out] at hsh
                  have HSH := Lib.hid hsh
                  clear hsh hb10 K9 S9
                  go_wp2_with fail
                  refine HSH.out.mono ?_
                  rintro e w11 ⟨rfl, hb11⟩
                  have B11 := Lib.hid (bel_then K10.out.old.below hb11)
                  clear hb11
                  go_wp2_with fail
                  refine (jawake_any w11).mono ?_
                  rintro e w12 ⟨rfl, hb12⟩
                  have B12 := Lib.hid (bel_then B11.out hb12)
                  clear hb12
                  go_wp2
                  go_ret
                  exact ⟨rfl, B12.out⟩
set_option maxRecDepth 100000 in
set_option maxHeartbeats 4000000 in
theorem jkeeps_main (A L : Option Addr) (ca cl : Nat) (b0 : List UInt8) (ls : List (List UInt8)) (w : World) (hr : RB w A b0) (hs : SV A b0.length ca) (hrl : RL w L ls) :
    Calls Try.prog 3 #[.slice A b0.length ca, .slice L ls.length cl] w fun e w' => e = .returned (.bool true) ∧ Below w.heap.size w w' := by
  by_cases h1 : b0.length ≤ 500
  · exact jkeeps_walk A L ca cl b0 ls w hr hs hrl h1
  · obtain ⟨n0, hn0⟩ : ∃ n, n = b0.length := ⟨_, rfl⟩
    obtain ⟨nl, hnl⟩ : ∃ n, n = ls.length := ⟨_, rfl⟩
    have hb := hr.len
    rw [← hn0] at h1 hb ⊢
    rw [← hnl]
    have hz1 : decide (500 < (n0 : Int)) = true := by simp; omega
    clear hr hs hrl hn0 hnl h1
    go_enter Try.func3, Try.ntmps3
    go_wp2_with fail
    refine (jawake_any w).mono ?_
    rintro e w1 ⟨rfl, hb1⟩
    have HB := Lib.hid hb1
    clear hb1
    go_wp2
    go_ret
    exact ⟨rfl, HB.out⟩
end Go.Proofs.Ytdldclakkplliaa
