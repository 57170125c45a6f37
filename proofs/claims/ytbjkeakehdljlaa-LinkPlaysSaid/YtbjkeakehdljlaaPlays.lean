/- The walk of LinkPlays: each call answers, and what waits is shown, as the document says. Conditions: none. -/
import Derived.Test.YtbjkeakehdljlaaSmall
import Derived.Test.YtbjkeakehdljlaaKeeps
import Derived.Test.YtbjkeakehdljlaaSteps
import Derived.Deep.DeepCutAuto
import Derived.Deep.CutBlock
namespace Go.Proofs.Ytbjkeakehdljlaa
set_option linter.unusedVariables false
set_option linter.unusedSimpArgs false
open Go.RowKit

noncomputable def G43 : Array Oper := regionOf Try.f4 43
theorem Gns43 : Region.noSelect G43 = true := by kernel_rfl

/-- How the two links stand beside one another. -/
structure Both (w0 w : World) (col : Nat → Nat) (g g2 : Nat) (last : Int) (ps qs : List P) : Prop where
  link : LinkAt w col (fun _ => 0) 1 g last ps
  ref : RefAt w col 2 g2 last qs
  eq : ps.map key = qs.map key
  old : Old w0 w col
  ok : ∀ p, p ∈ qs → sendOk p.to p.b

theorem Step.grow {id : Nat} {w w1 w2 : World} {col c1 : Nat → Nat} (h : Step id w col w1 c1) (hb : Below w1.heap.size w1 w2) (new : Nat → Nat) : Step id w col w2 (paint w1 c1 new) :=
  ⟨h.keeps.below hb, fun k hk => (paint_old (Nat.lt_of_lt_of_le hk h.keeps.size)).trans (h.same k hk)⟩
theorem Both.grow {w0 w w' : World} {col : Nat → Nat} {g g2 : Nat} {last : Int} {ps qs : List P} (h : Both w0 w col g g2 last ps qs) (hb : Below w.heap.size w w') (new : Nat → Nat) : Both w0 w' (paint w col new) g g2 last ps qs :=
  ⟨h.link.grow hb new, h.ref.grow hb new, h.eq, h.old.grow hb new, h.ok⟩
theorem fnd_key {ps qs : List P} (h : ps.map key = qs.map key) (x : Int) : fnd ps x = fnd qs x := by
  have e : ∀ l : List P, fnd l x = (match (l.map key).findIdx? (fun k => k.1 == x) with | some i => (i : Int) | none => -1) := by
    intro l
    unfold fnd
    rw [List.findIdx?_map]
    rfl
  rw [e, e, h]
theorem key_erase {ps qs : List P} (h : ps.map key = qs.map key) (i : Nat) : (ps.eraseIdx i).map key = (qs.eraseIdx i).map key := by
  rw [List.eraseIdx_eq_take_drop_succ, List.eraseIdx_eq_take_drop_succ, List.map_append, List.map_append, List.map_take, List.map_take, List.map_drop, List.map_drop, h]
theorem key_len {ps qs : List P} (h : ps.map key = qs.map key) : ps.length = qs.length := by
  have := congrArg List.length h
  simpa using this
theorem key_get {ps qs : List P} (h : ps.map key = qs.map key) {i : Nat} {p q : P} (hp : ps[i]? = some p) (hq : qs[i]? = some q) : key p = key q := by
  have := congrArg (fun l => l[i]?) h
  simp only [List.getElem?_map, hp, hq, Option.map_some] at this
  exact Option.some.inj this
theorem Both.sent {w0 w w2 w3 : World} {c c2 c3 : Nat → Nat} {g g2 : Nat} {last av : Int} {bs : List UInt8} {ps qs : List P} {A B : Option Addr} {ca cb : Nat} (h : Both w0 w c g g2 last ps qs) (s2 : Step 1 w c w2 c2) (l2 : LinkAt w2 c2 (fun _ => 0) 1 g (last + 1) (ps ++ [⟨last + 1, av, bs, A, ca⟩]))
    (s3 : Step 2 w2 c2 w3 c3) (r3 : RefAt w3 c3 2 g2 (last + 1) (qs ++ [⟨last + 1, av, bs, B, cb⟩])) (hok : sendOk av bs) : Both w0 w3 c3 g g2 (last + 1) (ps ++ [⟨last + 1, av, bs, A, ca⟩]) (qs ++ [⟨last + 1, av, bs, B, cb⟩]) :=
  ⟨l2.step s3 (by omega) (fun _ _ => by omega), r3, by rw [List.map_append, List.map_append, h.eq]; rfl, (h.old.step s2 (by omega)).step s3 (by omega), fun p hp => by
    rcases List.mem_append.1 hp with hp | hp
    · exact h.ok p hp
    · rw [List.mem_singleton] at hp; subst hp; exact hok⟩
theorem Both.erased {w0 w w2 w3 : World} {c c2 c3 : Nat → Nat} {g g2 i : Nat} {last : Int} {ps qs : List P} (h : Both w0 w c g g2 last ps qs) (s2 : Step 2 w c w2 c2) (r2 : RefAt w2 c2 2 g2 last (qs.eraseIdx i)) (s3 : Step 1 w2 c2 w3 c3) (l3 : LinkAt w3 c3 (fun _ => 0) 1 g last (ps.eraseIdx i)) :
    Both w0 w3 c3 g g2 last (ps.eraseIdx i) (qs.eraseIdx i) :=
  ⟨l3, r2.step s3 (by omega) (by omega), key_erase h.eq i, (h.old.step s2 (by omega)).step s3 (by omega), fun p hp => h.ok p (mem_erase hp)⟩
theorem Both.same {w0 w w2 w3 : World} {c c2 c3 : Nat → Nat} {g g2 : Nat} {last : Int} {ps qs : List P} (h : Both w0 w c g g2 last ps qs) (s2 : Step 2 w c w2 c2) (r2 : RefAt w2 c2 2 g2 last qs) (s3 : Step 1 w2 c2 w3 c3) (l3 : LinkAt w3 c3 (fun _ => 0) 1 g last ps) :
    Both w0 w3 c3 g g2 last ps qs :=
  ⟨l3, r2.step s3 (by omega) (by omega), h.eq, (h.old.step s2 (by omega)).step s3 (by omega), h.ok⟩

set_option maxRecDepth 100000 in
set_option maxHeartbeats 8000000 in
theorem plays_walk (A : Option Addr) (c : Nat) (ss : List St) (tt : Int) (w : World) (hr : RS w A ss) :
    Calls Try.prog 4 #[.slice A ss.length c, .int .i64 tt] w fun e w' => e = .returned (.bool true) ∧ Below w.heap.size w w' := by
  have HR := Lib.hid hr
  have hl := hr.len
  obtain ⟨n, hn⟩ : ∃ n, n = ss.length := ⟨_, rfl⟩
  have HN := Lib.hid hn
  rw [← hn] at hl
  rw [← hn]
  clear hr hn
  go_enter Try.func4, Try.ntmps4
  go_wp2
  go_loopw [5, 6] (fun r i w' => ∃ (k : Nat) (q : Int), k ≤ n ∧ 0 ≤ q ∧ q ≤ 1099511627776 ∧ i = .int .i64 k ∧ r = .int .i64 q ∧ Hid (Weighs 1000 (ss.take k) q) ∧ Hid (Below w.heap.size w w')) (fun _ i _ => n - (intOf i).toNat)
  case atStart => exact ⟨0, 0, Nat.zero_le _, by omega, by omega, rfl, rfl, Lib.hid (Or.inr ⟨by omega, rfl⟩), Lib.hid (Below.refl _ _)⟩
  case round =>
    obtain ⟨k, q, hk, hq0, hq1, rfl, rfl, HQ, HB⟩ := hrel
    by_cases hlt : k < n
    · by_cases hq : q ≤ 1000
      · obtain ⟨s, hs⟩ : ∃ s, s = ss[k]'(by rw [← HN.out]; exact hlt) := ⟨_, rfl⟩
        have hs2 : ss[k]? = some s := by rw [hs]; exact List.getElem?_eq_getElem _
        obtain ⟨ad, Aj, cj, rfl, -, -, hcell0, hsv, hrb⟩ := HR.out.at_ k s hs2
        have hcell := (HB.out.cell (World.block_lt_of_cell? w _ hcell0)).trans hcell0
        have hlb := hrb.len
        have hw := weight_take ss k s hs2
        have HW := Lib.hid hw
        clear hs hs2 hrb hsv hcell0 hw
        obtain ⟨m, hm⟩ : ∃ m, m = s.b.length := ⟨_, rfl⟩
        rw [← hm] at hlb hcell HW
        clear hm
        go_wp2_with fail
        refine (asum_any q hq0 hq1 _ _ [(m : Int), 1] (by intro x hx; simp only [List.mem_cons, List.not_mem_nil, or_false] at hx; omega) _ (RI.two wr m 1 3 rfl)).mono ?_
        rintro e w' ⟨rfl, rfl⟩
        go_wp2
        go_roundw
        case rel =>
          have hs : sat q [(m : Int), 1] = if (m : Int) > 1099511627776 - q ∨ m + q + 1 > 1099511627776 then 1099511627776 else q + m + 1 := by
            simp only [sat]
            repeat' split
            all_goals omega
          have hw := HW.out
          refine ⟨k + 1, _, by omega, ?_, ?_, by go_num, rfl, Lib.hid ?_, Lib.hid (HB.out.alloc HB.out.size _)⟩
          · rw [hs]; split <;> omega
          · rw [hs]; split <;> omega
          · rw [hs]
            unfold Weighs at *
            have hQ := HQ.out
            split <;> omega
        case measure => simp [intOf]; omega
      · have hbig : 1000 < q := by omega
        go_wp2_with fail
        refine (awake_any wr).mono ?_
        rintro e w1 ⟨rfl, hb⟩
        have HB1 := Lib.hid (bel_then HB.out hb)
        clear hb
        go_wp2
        go_ret
        exact ⟨rfl, HB1.out⟩
    · obtain rfl : k = n := by omega
      have hfull : ss.take k = ss := List.take_of_length_le (by rw [HN.out]; exact Nat.le_refl _)
      rw [hfull] at HQ
      clear hfull
      by_cases hbig : 1000 < q
      · go_wp2_with fail
        refine (awake_any wr).mono ?_
        rintro e w1 ⟨rfl, hb⟩
        have HB1 := Lib.hid (bel_then HB.out hb)
        clear hb
        go_wp2
        go_ret
        exact ⟨rfl, HB1.out⟩
      · have hwt : weight ss ≤ 1000 := by
          have := HQ.out
          unfold Weighs at this
          omega
        have hk1 : k ≤ 1000 := by have := weight_len ss; have := HN.out; omega
        have HWT := Lib.hid hwt
        clear hwt HQ
        go_wp2_with fail
        refine (new_any (fun _ => 0) 1 (by omega) wr (fun _ => 0)).mono ?_
        rintro e w1 ⟨g, c1, rfl, s1, l1⟩
        have O1 : Old w w1 c1 := Old.step (w := wr) ⟨HB.out, fun _ _ => rfl⟩ s1 (by omega)
        have hb2 := bel_alloc (Below.refl w1.heap.size w1) (Obj.cells #[.int .i64 0, .slice none 0 0] 44)
        have hboth : Both w (w1.alloc (.cells #[.int .i64 0, .slice none 0 0] 44)) (paint w1 c1 (fun _ => 2)) g w1.heap.size 0 [] [] :=
          ⟨l1.grow hb2 _, ⟨paint_new (Nat.le_refl _), by omega, ⟨none, 0, heap_alloc_new w1 _, ⟨Nat.le_refl _, fun _ => rfl, fun j p h => by simp at h⟩, fun h => by simp at h⟩, fun p hp => by simp at hp⟩, rfl, O1.grow hb2 _, fun p hp => by simp at hp⟩
        have HBO := Lib.hid hboth
        clear hboth hb2 O1 s1 l1 HB
        go_wp2
        generalize w1.alloc (.cells #[.int .i64 0, .slice none 0 0] 44) = w2 at *
        generalize w1.heap.size = g2 at *
        go_loopw [9] (fun u9 w' => ∃ (j : Nat) (last : Int) (ps qs : List P) (col : Nat → Nat), j ≤ k ∧ u9 = .int .i64 j ∧ 0 ≤ last ∧ last ≤ j ∧ qs.length ≤ j ∧ Hid (Both w w' col g g2 last ps qs)) (fun u9 _ => k - (intOf u9).toNat)
        case atStart => exact ⟨0, 0, [], [], _, Nat.zero_le _, rfl, Int.le_refl _, Int.le_refl _, Nat.le_refl _, HBO⟩
        case round =>
          clear HBO
          obtain ⟨j, last, ps, qs, col, hj, rfl, hl0, hlj, hqj, HBO⟩ := hrel
          by_cases hlt2 : j < k
          · obtain ⟨s, hs⟩ : ∃ s, s = ss[j]'(by rw [← HN.out]; exact hlt2) := ⟨_, rfl⟩
            have hs2 : ss[j]? = some s := by rw [hs]; exact List.getElem?_eq_getElem _
            have hsb : s.b.length ≤ 1000 := by have := weight_at ss s (List.mem_of_getElem? hs2); have := HWT.out; omega
            obtain ⟨ad, Aj, cj, rfl, ha0, ha1, ha2, hsv, hrb⟩ := HR.out.at_ j s hs2
            have hb := HBO.out.old.below
            have d0 := (hb.cell (World.block_lt_of_cell? w _ ha0)).trans ha0
            have d1 := (hb.cell (World.block_lt_of_cell? w _ ha1)).trans ha1
            have d2 := (hb.cell (World.block_lt_of_cell? w _ ha2)).trans ha2
            obtain ⟨kd, av, bs⟩ := s
            simp only at d0 d1 d2 hsv hrb hsb
            have HSV := Lib.hid hsv
            have HRB := Lib.hid hrb
            clear hs hs2 ha0 ha1 ha2 hb hsv hrb
            have hb0 : Below wr.heap.size wr (wr.alloc (.cells #[.int .i64 kd, .int .i64 av, .slice Aj bs.length cj] 40)) := bel_alloc (Below.refl _ _) _
            have HBO1 := Lib.hid (HBO.out.grow hb0 (fun _ => 0))
            have hcell1 : (wr.alloc (.cells #[.int .i64 kd, .int .i64 av, .slice Aj bs.length cj] 40)).heap[wr.heap.size]? = some (.cells #[.int .i64 kd, .int .i64 av, .slice Aj bs.length cj] 40 (0, 0)) := heap_alloc_new wr _
            have hcol1 : paint wr col (fun _ => 0) wr.heap.size = 0 := paint_new (Nat.le_refl _)
            have HC1 := Lib.hid hcell1
            have HP1 := Lib.hid hcol1
            go_upto_block 4 with fail
            clear hb0 hcell1 hcol1 HBO d0 d1 d2
            generalize wr.alloc (.cells #[.int .i64 kd, .int .i64 av, .slice Aj bs.length cj] 40) = W0 at *
            generalize paint wr col (fun _ => 0) = col0 at *
            generalize wr.heap.size = cs at *
            go_cut [10, 11, 12, 13, 14, 15, 16, 17, 18, 19, 20, 21, 22] (fun s10 s11 s12 s13 s14 s15 s16 s17 s18 s19 s20 s21 s22 wx => ∃ (last' : Int) (ps' qs' : List P) (col' : Nat → Nat), 0 ≤ last' ∧ last' ≤ j + 1 ∧ qs'.length ≤ j + 1 ∧ Hid (Both w wx col' g g2 last' ps' qs'))
            case first =>
              have e0 : W0.cell? ⟨cs, 0, none⟩ = some (.int .i64 kd) := by rw [cell_of_row _ cs 0 _ 40 (0, 0) HC1.out]; rfl
              have e1 : W0.cell? ⟨cs, 1, none⟩ = some (.int .i64 av) := by rw [cell_of_row _ cs 1 _ 40 (0, 0) HC1.out]; rfl
              have e2 : W0.cell? ⟨cs, 2, none⟩ = some (.slice Aj bs.length cj) := by rw [cell_of_row _ cs 2 _ 40 (0, 0) HC1.out]; rfl
              have HRC : Hid (RC W0 col0 0 Aj bs) := Lib.hid ⟨HRB.out.below HBO1.out.old.below, fun hp ad e => HBO1.out.old.zero _ (HRB.out.lt hp ad e)⟩
              have hlp := key_len HBO1.out.eq
              have hlp2 : ps.length ≤ 1000000 := by omega
              clear hlp
              by_cases hk1 : kd = 1
              · subst hk1
                by_cases hok : sendOk av bs
                · go_wp2_with fail
                  refine (send_ok (fun _ => 0) 1 g last ps av Aj cj 0 bs W0 col0 HBO1.out.link HRC.out (by omega) HSV.out hok (by omega) hlp2 (by omega)).mono ?_
                  rintro e w3 ⟨rfl, c3, A3, k3, s3, l3⟩
                  have S3 := Lib.hid s3
                  have L3 := Lib.hid l3
                  have hcl3 := (Array.getElem?_eq_some_iff.1 HC1.out).1
                  have hc3 := (s3.keeps.block cs hcl3 (by rw [HP1.out]; omega)).trans HC1.out
                  have f1 : w3.cell? ⟨cs, 1, none⟩ = some (.int .i64 av) := by rw [cell_of_row _ cs 1 _ 40 (0, 0) hc3]; rfl
                  have f2 : w3.cell? ⟨cs, 2, none⟩ = some (.slice Aj bs.length cj) := by rw [cell_of_row _ cs 2 _ 40 (0, 0) hc3]; rfl
                  clear s3 l3 hc3 hcl3 e0 e1 e2
                  go_wp2_with fail
                  refine (ref_send 2 g2 last qs av Aj cj bs w3 c3 (HBO1.out.ref.step S3.out (by omega) (by omega)) (HRC.out.step S3.out (by omega)) HSV.out hok (by omega) hl0 (by omega)).mono ?_
                  rintro e w4 ⟨rfl, c4, s4, r4⟩
                  have HF := Lib.hid (HBO1.out.sent S3.out L3.out s4 r4 hok)
                  clear s4 r4 f1 f2
                  go_wp2
                  go_meet
                  exact ⟨last + 1, _, _, c4, by omega, by omega, by simp; omega, HF⟩
                · have hbad : av < 0 ∨ 20 < av ∨ 65536 < bs.length := by
                    unfold sendOk at hok
                    omega
                  clear hok
                  have HBAD := Lib.hid hbad
                  clear hbad
                  go_wp2_with fail
                  refine (send_bad _ av Aj _ cj W0 HBAD.out).mono ?_
                  rintro e w3 ⟨rfl, rfl⟩
                  go_wp2_with fail
                  refine (ref_bad _ av Aj _ cj W0 HBAD.out).mono ?_
                  rintro e w3 ⟨rfl, rfl⟩
                  go_wp2
                  go_meet
                  exact ⟨last, ps, qs, col0, hl0, by omega, by omega, HBO1⟩
              · by_cases hk4 : kd = 4
                · subst hk4
                  go_wp2_with fail
                  refine (double_any (fun _ => 0) 1 g last ps av W0 col0 HBO1.out.link hlp2 (by omega) (fun p hp => ?_) (by omega)).mono ?_
                  · have := List.mem_map_of_mem (f := key) hp
                    rw [HBO1.out.eq] at this
                    obtain ⟨q', hq', hk'⟩ := List.mem_map.1 this
                    have h1 : p.b = q'.b := (congrArg (·.2.2) hk').symm
                    rw [h1]
                    exact (HBO1.out.ok q' hq').2.2
                  rintro e w3 ⟨c3, s3, hor⟩
                  have S3 := Lib.hid s3
                  have HOR := Lib.hid hor
                  have hcl3 := (Array.getElem?_eq_some_iff.1 HC1.out).1
                  have hc3 := (s3.keeps.block cs hcl3 (by rw [HP1.out]; omega)).trans HC1.out
                  have f1 : w3.cell? ⟨cs, 1, none⟩ = some (.int .i64 av) := by rw [cell_of_row _ cs 1 _ 40 (0, 0) hc3]; rfl
                  clear s3 hc3 hcl3 e0 e1 e2 hor
                  rcases HOR.out with ⟨hx, rfl, l3⟩ | ⟨i, p, Ab, cb, hx, hp, hpx, rfl, l3⟩
                  · have hx2 := hx
                    rw [fnd_key HBO1.out.eq] at hx2
                    have HX := Lib.hid hx2
                    have L3 := Lib.hid l3
                    clear hx hx2 l3 HOR
                    go_wp2_with fail
                    refine (ref_double 2 g2 last qs av w3 c3 (HBO1.out.ref.step S3.out (by omega) (by omega)) (by omega) hl0 (by omega) HBO1.out.ok).mono ?_
                    rintro e w4 ⟨c4, s4, ⟨hx, rfl, r4⟩ | ⟨i, p, A', c', hx, -⟩⟩
                    · have HF : Hid (Both w w4 c4 g g2 last ps qs) := Lib.hid ⟨L3.out.step s4 (by omega) (fun _ _ => by omega), r4, HBO1.out.eq, (HBO1.out.old.step S3.out (by omega)).step s4 (by omega), HBO1.out.ok⟩
                      clear s4 r4 f1 hx
                      go_wp2
                      go_meet
                      exact ⟨last, ps, qs, c4, hl0, by omega, by omega, HF⟩
                    · exfalso; rw [HX.out] at hx; omega
                  · have hx2 := hx
                    rw [fnd_key HBO1.out.eq] at hx2
                    have HX := Lib.hid hx2
                    have HP := Lib.hid hp
                    have L3 := Lib.hid l3
                    clear hx hx2 l3 HOR hp hpx
                    go_wp2_with fail
                    refine (ref_double 2 g2 last qs av w3 c3 (HBO1.out.ref.step S3.out (by omega) (by omega)) (by omega) hl0 (by omega) HBO1.out.ok).mono ?_
                    rintro e w4 ⟨c4, s4, ⟨hx, rfl, r4⟩ | ⟨i', p', A', c', hx, hp', hpx', rfl, r4⟩⟩
                    · exfalso; rw [HX.out] at hx; omega
                    · have hii : i' = i := by rw [HX.out] at hx; omega
                      subst hii
                      have hkk := key_get HBO1.out.eq HP.out hp'
                      have hto : p.to = p'.to := congrArg (·.2.1) hkk
                      have hb : p.b = p'.b := congrArg (·.2.2) hkk
                      rw [← hto, ← hb] at r4
                      have l3 := L3.out
                      have HF := Lib.hid (HBO1.out.sent S3.out l3 s4 r4 (by rw [hto, hb]; exact HBO1.out.ok p' (List.mem_of_getElem? hp')))
                      clear s4 r4 f1 hx hp' hpx' hkk hto hb l3
                      go_wp2
                      go_meet
                      exact ⟨last + 1, _, _, c4, by omega, by omega, by simp; omega, HF⟩
                · by_cases hk23 : kd = 2 ∨ kd = 3
                  · rcases hk23 with rfl | rfl
                    · clear hk1 hk4
                      go_wp2_with fail
                      refine (ref_take 2 g2 last qs av W0 col0 HBO1.out.ref (by omega)).mono ?_
                      rintro e w3 ⟨c3, s3, ⟨hx, rfl, r3⟩ | ⟨i, ⟨qi, qt, qb, qA, qc⟩, hx, hq, hqx, rfl, r3, hsv3, hrc3⟩⟩
                      · have hcl3 := (Array.getElem?_eq_some_iff.1 HC1.out).1
                        have hc3 := (s3.keeps.block cs hcl3 (by rw [HP1.out]; omega)).trans HC1.out
                        clear e0 e1 e2
                        have hb4 : Below w3.heap.size w3 (w3.alloc (.cells #[.int .i64 0, .int .i64 0, .slice none 0 0] 47)) := bel_alloc (Below.refl _ _) _
                        have hc4 := heap_below hc3 hb4
                        have e0 : (w3.alloc (.cells #[.int .i64 0, .int .i64 0, .slice none 0 0] 47)).cell? ⟨cs, 0, none⟩ = some (.int .i64 2) := by rw [cell_of_row _ cs 0 _ 40 (0, 0) hc4]; rfl
                        have e1 : (w3.alloc (.cells #[.int .i64 0, .int .i64 0, .slice none 0 0] 47)).cell? ⟨cs, 1, none⟩ = some (.int .i64 av) := by rw [cell_of_row _ cs 1 _ 40 (0, 0) hc4]; rfl
                        have HN4 : Hid ((w3.alloc (.cells #[.int .i64 0, .int .i64 0, .slice none 0 0] 47)).heap[w3.heap.size]? = some (.cells #[.int .i64 0, .int .i64 0, .slice none 0 0] 47 (0, 0))) := Lib.hid (heap_alloc_new w3 _)
                        have S4 := Lib.hid (s3.grow hb4 (fun _ => 0))
                        have R4 := Lib.hid (r3.grow hb4 (fun _ => 0))
                        have L4 := Lib.hid (HBO1.out.link.step S4.out (by omega) (fun _ _ => by omega))
                        have HP4 : Hid (paint w3 c3 (fun _ => 0) w3.heap.size = 0) := Lib.hid (paint_new (Nat.le_refl _))
                        have HX := Lib.hid hx
                        clear s3 r3 hc3 hcl3 hb4 hc4 hx
                        simp only [noFrame]
                        go_wp2_with fail
                        generalize paint w3 c3 (fun _ => 0) = c4 at *
                        generalize (w3.alloc (.cells #[.int .i64 0, .int .i64 0, .slice none 0 0] 47)) = w4 at *
                        generalize w3.heap.size = cn at *
                        refine (take_any (fun _ => 0) 1 g last ps av w4 c4 L4.out hlp2).mono ?_
                        rintro e w5 ⟨c5, s5, ⟨hx5, rfl, l5⟩ | ⟨i5, p5, hx5, -⟩⟩
                        case' inr => exfalso; rw [fnd_key HBO1.out.eq, HX.out] at hx5; omega
                        simp only [noFrame]
                        have hb5 : Below w5.heap.size w5 (w5.alloc (.cells #[.int .i64 0, .int .i64 0, .slice none 0 0] 31)) := bel_alloc (Below.refl _ _) _
                        have HF5 := Lib.hid (HBO1.out.same S4.out R4.out s5 l5)
                        have hn5 := heap_below ((s5.keeps.block cn (Array.getElem?_eq_some_iff.1 HN4.out).1 (by rw [HP4.out]; omega)).trans HN4.out) hb5
                        have g0 := cell_of_row _ _ 0 _ _ _ hn5
                        have g1 := cell_of_row _ _ 1 _ _ _ hn5
                        have g2' := cell_of_row _ _ 2 _ _ _ hn5
                        have h0' := cell_alloc' w5 #[.int .i64 0, .int .i64 0, .slice none 0 0] 31 0 _ rfl
                        have h1' := cell_alloc' w5 #[.int .i64 0, .int .i64 0, .slice none 0 0] 31 1 _ rfl
                        have h2' := cell_alloc' w5 #[.int .i64 0, .int .i64 0, .slice none 0 0] 31 2 _ rfl
                        simp at g0 g1 g2'
                        have HB5 := Lib.hid hb5
                        clear hn5 s5 l5 e0 e1 hb5 hx5
                        go_wp2_with fail
                        refine (same_true 0 0 none none 0 0 [] _ (RB.nil _ _) (RB.nil _ _)).mono ?_
                        rintro e w6 ⟨rfl, hb6⟩
                        have HF6 := Lib.hid (HF5.out.grow (bel_then HB5.out hb6) (fun _ => 0))
                        clear hb6 g0 g1 g2' h0' h1' h2'
                        go_wp2
                        go_meet
                        exact ⟨last, _, _, _, hl0, by omega, by omega, HF6⟩
                      · dsimp only at hqx hsv3 hrc3
                        have hcl3 := (Array.getElem?_eq_some_iff.1 HC1.out).1
                        have hc3 := (s3.keeps.block cs hcl3 (by rw [HP1.out]; omega)).trans HC1.out
                        clear e0 e1 e2
                        obtain rfl : av = qi := hqx.symm
                        obtain ⟨p, hp, hpk⟩ := key_at HBO1.out.eq i (x := (av, qt, qb)) (by rw [List.getElem?_map, hq]; rfl)
                        have hb4 : Below w3.heap.size w3 (w3.alloc (.cells #[.int .i64 av, .int .i64 qt, .slice qA qb.length qc] 47)) := bel_alloc (Below.refl _ _) _
                        have hc4 := heap_below hc3 hb4
                        have e0 : (w3.alloc (.cells #[.int .i64 av, .int .i64 qt, .slice qA qb.length qc] 47)).cell? ⟨cs, 0, none⟩ = some (.int .i64 2) := by rw [cell_of_row _ cs 0 _ 40 (0, 0) hc4]; rfl
                        have e1 : (w3.alloc (.cells #[.int .i64 av, .int .i64 qt, .slice qA qb.length qc] 47)).cell? ⟨cs, 1, none⟩ = some (.int .i64 av) := by rw [cell_of_row _ cs 1 _ 40 (0, 0) hc4]; rfl
                        have HN4 : Hid ((w3.alloc (.cells #[.int .i64 av, .int .i64 qt, .slice qA qb.length qc] 47)).heap[w3.heap.size]? = some (.cells #[.int .i64 av, .int .i64 qt, .slice qA qb.length qc] 47 (0, 0))) := Lib.hid (heap_alloc_new w3 _)
                        have S4 := Lib.hid (s3.grow hb4 (fun _ => 0))
                        have R4 := Lib.hid (r3.grow hb4 (fun _ => 0))
                        have L4 := Lib.hid (HBO1.out.link.step S4.out (by omega) (fun _ _ => by omega))
                        have HP4 : Hid (paint w3 c3 (fun _ => 0) w3.heap.size = 0) := Lib.hid (paint_new (Nat.le_refl _))
                        have HRC4 := Lib.hid ((hrc3.recol (fun k hk => paint_old (new := fun _ => 0) hk)).below hb4)
                        have HX := Lib.hid hx
                        clear s3 r3 hc3 hcl3 hb4 hc4 hx hrc3 hsv3 hq hqx
                        simp only [frameV]
                        have HPP := Lib.hid hp
                        have HPK := Lib.hid hpk
                        clear hp hpk
                        go_wp2_with fail
                        generalize paint w3 c3 (fun _ => 0) = c4 at *
                        generalize (w3.alloc (.cells #[.int .i64 av, .int .i64 qt, .slice qA qb.length qc] 47)) = w4 at *
                        generalize w3.heap.size = cn at *
                        refine (take_key (fun _ => 0) 1 g last ps av qt qb w4 c4 L4.out hlp2 i p HPP.out HPK.out).mono ?_
                        rintro e w5 ⟨A5, c5', rfl, c5, s5, l5, sv5, rc5, -⟩
                        have hb5 : Below w5.heap.size w5 (w5.alloc (.cells #[.int .i64 av, .int .i64 qt, .slice A5 qb.length c5'] 31)) := bel_alloc (Below.refl _ _) _
                        have HF5 := Lib.hid (HBO1.out.erased S4.out R4.out s5 l5)
                        have hn5 := heap_below ((s5.keeps.block cn (Array.getElem?_eq_some_iff.1 HN4.out).1 (by rw [HP4.out]; omega)).trans HN4.out) hb5
                        have HR5 := Lib.hid (rc5.below hb5).read
                        have HR6 := Lib.hid ((HRC4.out.step s5 (by omega)).below hb5).read
                        have hle : (qs.eraseIdx i).length ≤ qs.length := List.length_eraseIdx_le _ _
                        have g0 := cell_of_row _ _ 0 _ _ _ hn5
                        have g1 := cell_of_row _ _ 1 _ _ _ hn5
                        have g2' := cell_of_row _ _ 2 _ _ _ hn5
                        have h0' := cell_alloc' w5 #[.int .i64 av, .int .i64 qt, .slice A5 qb.length c5'] 31 0 _ rfl
                        have h1' := cell_alloc' w5 #[.int .i64 av, .int .i64 qt, .slice A5 qb.length c5'] 31 1 _ rfl
                        have h2' := cell_alloc' w5 #[.int .i64 av, .int .i64 qt, .slice A5 qb.length c5'] 31 2 _ rfl
                        simp at g0 g1 g2'
                        have HB5 := Lib.hid hb5
                        clear hn5 s5 l5 e0 e1 hb5 sv5 rc5
                        go_wp2_with fail
                        refine (same_true av qt A5 qA c5' qc qb _ HR5.out HR6.out).mono ?_
                        rintro e w6 ⟨rfl, hb6⟩
                        have HF6 := Lib.hid (HF5.out.grow (bel_then HB5.out hb6) (fun _ => 0))
                        clear hb6 g0 g1 g2' h0' h1' h2'
                        go_wp2
                        go_meet
                        exact ⟨last, _, _, _, hl0, by omega, by omega, HF6⟩
                    · clear hk1 hk4
                      go_wp2_with fail
                      refine (ref_take 2 g2 last qs av W0 col0 HBO1.out.ref (by omega)).mono ?_
                      rintro e w3 ⟨c3, s3, ⟨hx, rfl, r3⟩ | ⟨i, ⟨qi, qt, qb, qA, qc⟩, hx, hq, hqx, rfl, r3, hsv3, hrc3⟩⟩
                      · have hcl3 := (Array.getElem?_eq_some_iff.1 HC1.out).1
                        have hc3 := (s3.keeps.block cs hcl3 (by rw [HP1.out]; omega)).trans HC1.out
                        clear e0 e1 e2
                        have hb4 : Below w3.heap.size w3 (w3.alloc (.cells #[.int .i64 0, .int .i64 0, .slice none 0 0] 47)) := bel_alloc (Below.refl _ _) _
                        have hc4 := heap_below hc3 hb4
                        have e0 : (w3.alloc (.cells #[.int .i64 0, .int .i64 0, .slice none 0 0] 47)).cell? ⟨cs, 0, none⟩ = some (.int .i64 3) := by rw [cell_of_row _ cs 0 _ 40 (0, 0) hc4]; rfl
                        have e1 : (w3.alloc (.cells #[.int .i64 0, .int .i64 0, .slice none 0 0] 47)).cell? ⟨cs, 1, none⟩ = some (.int .i64 av) := by rw [cell_of_row _ cs 1 _ 40 (0, 0) hc4]; rfl
                        have HN4 : Hid ((w3.alloc (.cells #[.int .i64 0, .int .i64 0, .slice none 0 0] 47)).heap[w3.heap.size]? = some (.cells #[.int .i64 0, .int .i64 0, .slice none 0 0] 47 (0, 0))) := Lib.hid (heap_alloc_new w3 _)
                        have S4 := Lib.hid (s3.grow hb4 (fun _ => 0))
                        have R4 := Lib.hid (r3.grow hb4 (fun _ => 0))
                        have L4 := Lib.hid (HBO1.out.link.step S4.out (by omega) (fun _ _ => by omega))
                        have HP4 : Hid (paint w3 c3 (fun _ => 0) w3.heap.size = 0) := Lib.hid (paint_new (Nat.le_refl _))
                        have HX := Lib.hid hx
                        clear s3 r3 hc3 hcl3 hb4 hc4 hx
                        simp only [noFrame]
                        go_wp2_with fail
                        generalize paint w3 c3 (fun _ => 0) = c4 at *
                        generalize (w3.alloc (.cells #[.int .i64 0, .int .i64 0, .slice none 0 0] 47)) = w4 at *
                        generalize w3.heap.size = cn at *
                        refine (lose_any (fun _ => 0) 1 g last ps av w4 c4 L4.out hlp2).mono ?_
                        rintro e w5 ⟨c5, s5, ⟨hx5, rfl, l5⟩ | ⟨i5, p5, hx5, hp5, hpx5, rfl, l5⟩⟩
                        · have HF := Lib.hid (HBO1.out.same S4.out R4.out s5 l5)
                          clear s5 l5 hx5 e0 e1
                          go_wp2
                          go_roundw
                          case rel => exact ⟨j + 1, last, ps, qs, c5, by omega, by go_num, hl0, by omega, by omega, HF⟩
                          case measure => simp [intOf]; omega
                        · exfalso; rw [fnd_key HBO1.out.eq, HX.out] at hx5; omega
                      · dsimp only at hqx hsv3 hrc3
                        have hcl3 := (Array.getElem?_eq_some_iff.1 HC1.out).1
                        have hc3 := (s3.keeps.block cs hcl3 (by rw [HP1.out]; omega)).trans HC1.out
                        clear e0 e1 e2
                        obtain rfl : av = qi := hqx.symm
                        obtain ⟨p, hp, hpk⟩ := key_at HBO1.out.eq i (x := (av, qt, qb)) (by rw [List.getElem?_map, hq]; rfl)
                        have hb4 : Below w3.heap.size w3 (w3.alloc (.cells #[.int .i64 av, .int .i64 qt, .slice qA qb.length qc] 47)) := bel_alloc (Below.refl _ _) _
                        have hc4 := heap_below hc3 hb4
                        have e0 : (w3.alloc (.cells #[.int .i64 av, .int .i64 qt, .slice qA qb.length qc] 47)).cell? ⟨cs, 0, none⟩ = some (.int .i64 3) := by rw [cell_of_row _ cs 0 _ 40 (0, 0) hc4]; rfl
                        have e1 : (w3.alloc (.cells #[.int .i64 av, .int .i64 qt, .slice qA qb.length qc] 47)).cell? ⟨cs, 1, none⟩ = some (.int .i64 av) := by rw [cell_of_row _ cs 1 _ 40 (0, 0) hc4]; rfl
                        have HN4 : Hid ((w3.alloc (.cells #[.int .i64 av, .int .i64 qt, .slice qA qb.length qc] 47)).heap[w3.heap.size]? = some (.cells #[.int .i64 av, .int .i64 qt, .slice qA qb.length qc] 47 (0, 0))) := Lib.hid (heap_alloc_new w3 _)
                        have S4 := Lib.hid (s3.grow hb4 (fun _ => 0))
                        have R4 := Lib.hid (r3.grow hb4 (fun _ => 0))
                        have L4 := Lib.hid (HBO1.out.link.step S4.out (by omega) (fun _ _ => by omega))
                        have HP4 : Hid (paint w3 c3 (fun _ => 0) w3.heap.size = 0) := Lib.hid (paint_new (Nat.le_refl _))
                        have HRC4 := Lib.hid ((hrc3.recol (fun k hk => paint_old (new := fun _ => 0) hk)).below hb4)
                        have HX := Lib.hid hx
                        clear s3 r3 hc3 hcl3 hb4 hc4 hx hrc3 hsv3 hq hqx
                        simp only [frameV]
                        have HPP := Lib.hid hp
                        have HPK := Lib.hid hpk
                        clear hp hpk
                        go_wp2_with fail
                        generalize paint w3 c3 (fun _ => 0) = c4 at *
                        generalize (w3.alloc (.cells #[.int .i64 av, .int .i64 qt, .slice qA qb.length qc] 47)) = w4 at *
                        generalize w3.heap.size = cn at *
                        refine (lose_any (fun _ => 0) 1 g last ps av w4 c4 L4.out hlp2).mono ?_
                        rintro e w5 ⟨c5, s5, ⟨hx5, rfl, l5⟩ | ⟨i5, p5, hx5, hp5, hpx5, rfl, l5⟩⟩
                        · exfalso; rw [fnd_key HBO1.out.eq, HX.out] at hx5; omega
                        · have hii : i5 = i := by rw [fnd_key HBO1.out.eq, HX.out] at hx5; omega
                          subst hii
                          have HF := Lib.hid (HBO1.out.erased S4.out R4.out s5 l5)
                          have hle : (qs.eraseIdx i5).length ≤ qs.length := List.length_eraseIdx_le _ _
                          clear s5 l5 hx5 e0 e1 hp5 hpx5
                          go_wp2
                          go_roundw
                          case rel => exact ⟨j + 1, last, _, _, c5, by omega, by go_num, hl0, by omega, by omega, HF⟩
                          case measure => simp [intOf]; omega
                  · have hb1 : (kd == 1) = false := by simp [hk1]
                    have hb2 : (kd == 2) = false := by simp; omega
                    have hb3 : (kd == 3) = false := by simp; omega
                    have hb4 : (kd == 4) = false := by simp [hk4]
                    go_wp2
                    go_meet
                    exact ⟨last, ps, qs, col0, hl0, by omega, by omega, HBO1⟩
            case rest =>
              obtain ⟨last', ps', qs', col', hl0', hlj', hqj', HB2⟩ := hcut
              clear HBO1 HC1 HP1
              obtain ⟨v5, hv5, ho5, -⟩ := HB2.out.link.ex
              obtain ⟨A5, c5, rfl, hfr5⟩ := own_FR ho5
              have hlp := key_len HB2.out.eq
              have hpb : ∀ p, p ∈ ps' → SV p.A p.b.length p.c ∧ RB wc p.A p.b ∧ p.b.length ≤ 65536 := fun p hp => by
                have hm := List.mem_map_of_mem (f := key) hp
                rw [HB2.out.eq] at hm
                obtain ⟨q', hq', hk'⟩ := List.mem_map.1 hm
                have h1 : p.b = q'.b := (congrArg (·.2.2) hk').symm
                exact ⟨(HB2.out.link.dat p hp).1, (HB2.out.link.dat p hp).2.1.read, by rw [h1]; exact (HB2.out.ok q' hq').2.2⟩
              have HWT2 := Lib.hid (fun (W : World) (hW : Below wc.heap.size wc W) => waiting_any g last' ps' A5 c5 W (heap_below hv5 hW) (hfr5.below hW) (fun p hp => ⟨(hpb p hp).1, (hpb p hp).2.1.below hW, (hpb p hp).2.2⟩) (by omega))
              clear hpb hv5 ho5 hfr5
              go_wp2_with fail
              refine (HWT2.out wc (Below.refl _ _)).mono ?_
              rintro e w7 ⟨v7, fs, rfl, hk7, hof7, hb7⟩
              obtain ⟨A7, c7, rfl, hfr7⟩ := hof7.reads
              obtain ⟨AL, cL, hgr, hfrr, -⟩ := HB2.out.ref.ex
              have hkfq : fs.map key = qs'.map key := hk7.trans HB2.out.eq
              obtain ⟨n3, hn3⟩ : ∃ n, n = fs.length := ⟨_, rfl⟩
              have hn4 : n3 = qs'.length := by rw [hn3]; exact key_len hkfq
              have hn5 : n3 = ps'.length := by rw [hn3]; exact key_len hk7
              have HN3 := Lib.hid hn3
              have HN4 := Lib.hid hn4
              have HKF := Lib.hid hkfq
              have HK7 := Lib.hid hk7
              have HFR7 := Lib.hid hfr7
              have HFRR := Lib.hid (hfrr.below hb7)
              have HGR := Lib.hid (heap_below hgr hb7)
              have HDF := Lib.hid hof7.dat
              have HDR := Lib.hid (fun p hp => ((HB2.out.ref.dat p hp).2.below hb7).read)
              have HB7 := Lib.hid hb7
              have hcr : w7.cell? ⟨g2, 1, none⟩ = some (.slice AL n3 cL) := by rw [cell_of_row _ g2 1 _ 44 (0, 0) HGR.out, hn4]; rfl
              rw [← hn3]
              have hn6 : n3 ≤ j + 1 := by omega
              clear hn3 hn4 hn5 hk7 hkfq hof7 hb7 hfr7 hfrr hgr hlp
              go_wp2_with fail
              clear hcr
              go_loopw [24, 25] (fun s24 s25 w' => ∃ (k3 : Nat) (xs : List Int), k3 ≤ n3 ∧ s25 = .int .i64 k3 ∧ xs.length ≤ k3 ∧ Hid (xs = idsFor (fs.take k3) tt) ∧ Hid (OI w' w7.heap.size s24 xs) ∧ Hid (Below w7.heap.size w7 w')) (fun _ s25 _ => n3 - (intOf s25).toNat)
              case atStart => exact ⟨0, [], Nat.zero_le _, rfl, Nat.le_refl _, Lib.hid rfl, Lib.hid (OI.nil _ _), Lib.hid (Below.refl _ _)⟩
              case round =>
                obtain ⟨k3, xs, hk3, rfl, hxs, HX, HO, HB3⟩ := hrel
                by_cases hlt3 : k3 < n3
                · obtain ⟨q, hq⟩ : ∃ q, q = fs[k3]'(by rw [← HN3.out]; exact hlt3) := ⟨_, rfl⟩
                  have hq2 : fs[k3]? = some q := by rw [hq]; exact List.getElem?_eq_getElem _
                  obtain ⟨q2, hq3⟩ : ∃ q2, q2 = qs'[k3]'(by rw [← HN4.out]; exact hlt3) := ⟨_, rfl⟩
                  have hq4 : qs'[k3]? = some q2 := by rw [hq3]; exact List.getElem?_eq_getElem _
                  have hkk := key_get HKF.out hq2 hq4
                  have HST := Lib.hid (idsFor_step hq2 tt)
                  obtain ⟨gg, rfl, ha0, ha1, ha2⟩ := HFR7.out.at_ k3 q hq2
                  obtain ⟨gr, rfl, hr0, hr1, hr2⟩ := HFRR.out.at_ k3 q2 hq4
                  have hb3 := HB3.out
                  have RQ1' := ((HDF.out q (List.mem_of_getElem? hq2)).2.1.below hb3).drew
                  have RQ2' := ((HDR.out q2 (List.mem_of_getElem? hq4)).below hb3).drew
                  have hidq : q.id = q2.id := congrArg (·.1) hkk
                  have htoq : q.to = q2.to := congrArg (·.2.1) hkk
                  have hbq : q.b = q2.b := congrArg (·.2.2) hkk
                  rw [← hidq] at hr0
                  rw [← htoq] at hr1
                  rw [← hbq] at hr2 RQ2'
                  have RQ1 := Lib.hid RQ1'
                  have RQ2 := Lib.hid RQ2'
                  have x0 := (hb3.cell (World.block_lt_of_cell? w7 _ ha0)).trans ha0
                  have x1 := (hb3.cell (World.block_lt_of_cell? w7 _ ha1)).trans ha1
                  have x2 := (hb3.cell (World.block_lt_of_cell? w7 _ ha2)).trans ha2
                  have y0 := (hb3.cell (World.block_lt_of_cell? w7 _ hr0)).trans hr0
                  have y1 := (hb3.cell (World.block_lt_of_cell? w7 _ hr1)).trans hr1
                  have y2 := (hb3.cell (World.block_lt_of_cell? w7 _ hr2)).trans hr2
                  have z1 : wr.cell? ⟨g2, 1, none⟩ = some (.slice (some ⟨gr, 0, none⟩) n3 cL) := by rw [cell_of_row _ g2 1 _ 44 (0, 0) (heap_below HGR.out hb3), HN4.out]; rfl
                  have hsv : ∀ X, Below wr.drew.heap.size wr.drew X → X.cell? ⟨gg, k3 * 3, none⟩ = some (.int .i64 q.id) ∧ X.cell? ⟨gg, k3 * 3 + 1, none⟩ = some (.int .i64 q.to) ∧ X.cell? ⟨gg, k3 * 3 + 2, none⟩ = some (.slice q.A q.b.length q.c) ∧ X.cell? ⟨gr, k3 * 3, none⟩ = some (.int .i64 q.id) ∧ X.cell? ⟨gr, k3 * 3 + 1, none⟩ = some (.int .i64 q.to) ∧ X.cell? ⟨gr, k3 * 3 + 2, none⟩ = some (.slice q2.A q.b.length q2.c) ∧ X.cell? ⟨g2, 1, none⟩ = some (.slice (some ⟨gr, 0, none⟩) n3 cL) := by
                    intro X hX
                    exact ⟨(hX.cell (World.block_lt_of_cell? wr _ x0)).trans x0, (hX.cell (World.block_lt_of_cell? wr _ x1)).trans x1, (hX.cell (World.block_lt_of_cell? wr _ x2)).trans x2, (hX.cell (World.block_lt_of_cell? wr _ y0)).trans y0, (hX.cell (World.block_lt_of_cell? wr _ y1)).trans y1, (hX.cell (World.block_lt_of_cell? wr _ y2)).trans y2, (hX.cell (World.block_lt_of_cell? wr _ z1)).trans z1⟩
                  have HSV43 := Lib.hid hsv
                  have HO3 : Hid (OI wr.drew w7.heap.size u24 xs) := HO
                  have HB3' : Hid (Below w7.heap.size w7 wr.drew) := Lib.hid (bel_drew hb3)
                  clear ha0 ha1 ha2 hr0 hr1 hr2 hb3 x0 x1 x2 y0 y1 y2 z1 hsv RQ1' RQ2' hkk hidq htoq hbq hq hq2 hq3 hq4 HO HB3
                  go_upto_region 43 with fail
                  refine region_const (G := G43) (S := fun X => X.cell? ⟨gg, k3 * 3, none⟩ = some (.int .i64 q.id) ∧ X.cell? ⟨gg, k3 * 3 + 1, none⟩ = some (.int .i64 q.to) ∧ X.cell? ⟨gg, k3 * 3 + 2, none⟩ = some (.slice q.A q.b.length q.c) ∧ X.cell? ⟨gr, k3 * 3, none⟩ = some (.int .i64 q.id) ∧ X.cell? ⟨gr, k3 * 3 + 1, none⟩ = some (.int .i64 q.to) ∧ X.cell? ⟨gr, k3 * 3 + 2, none⟩ = some (.slice q2.A q.b.length q2.c) ∧ X.cell? ⟨g2, 1, none⟩ = some (.slice (some ⟨gr, 0, none⟩) n3 cL)) (n := 13) (by kernel_rfl) (by kernel_rfl) rfl (HSV43.out _ (Below.refl _ _)) (fun HG hS0 => ?_)
                  have Gns := Gns43
                  generalize wr.drew = V at *
                  simp only [Array.replicate_succ, Array.replicate_zero, List.push_toArray, List.nil_append, List.cons_append]
                  refine wpAnyH_take (i := 0) (v := ?_) (o_at HG 0 rfl) Gns (by kernel_rfl) (by kernel_rfl) (fun _ _ _ h => h) (Or.inl ⟨(by kernel_rfl), ?_⟩) (by first | trivial | assumption) ?_
                  rotate_left
                  · (intro w hSw; (try dsimp only at hSw); go_simp; try with_reducible rfl)
                  try simp only [Act.put, List.getElem_toArray, List.getElem_cons_zero, List.getElem_cons_succ, List.setIfInBounds_toArray, List.set_cons_zero, List.set_cons_succ]
                  refine wpAnyH_take (i := 1) (v := ?_) (o_at HG 1 rfl) Gns (by kernel_rfl) (by kernel_rfl) (fun _ _ _ h => h) (Or.inl ⟨(by kernel_rfl), ?_⟩) (by first | trivial | assumption) ?_
                  rotate_left
                  · (intro w hSw; (try dsimp only at hSw); go_simp; try with_reducible rfl)
                  try simp only [Act.put, List.getElem_toArray, List.getElem_cons_zero, List.getElem_cons_succ, List.setIfInBounds_toArray, List.set_cons_zero, List.set_cons_succ]
                  refine wpAnyH_take (i := 2) (v := ?_) (o_at HG 2 rfl) Gns (by kernel_rfl) (by kernel_rfl) (fun _ _ _ h => h) (Or.inl ⟨(by kernel_rfl), ?_⟩) (by first | trivial | assumption) ?_
                  rotate_left
                  · (intro w hSw; (try dsimp only at hSw); go_simp; try with_reducible rfl)
                  try simp only [Act.put, List.getElem_toArray, List.getElem_cons_zero, List.getElem_cons_succ, List.setIfInBounds_toArray, List.set_cons_zero, List.set_cons_succ]
                  refine wpAnyH_take (i := 3) (v := ?_) (o_at HG 3 rfl) Gns (by kernel_rfl) (by kernel_rfl) (fun _ _ _ h => h) (Or.inl ⟨(by kernel_rfl), ?_⟩) (by first | trivial | assumption) ?_
                  rotate_left
                  · (intro w hSw; (try dsimp only at hSw); go_simp; try with_reducible rfl)
                  try simp only [Act.put, List.getElem_toArray, List.getElem_cons_zero, List.getElem_cons_succ, List.setIfInBounds_toArray, List.set_cons_zero, List.set_cons_succ]
                  refine wpAnyH_take (i := 4) (v := ?_) (o_at HG 4 rfl) Gns (by kernel_rfl) (by kernel_rfl) (fun _ _ _ h => h) (Or.inl ⟨(by kernel_rfl), ?_⟩) (by first | trivial | assumption) ?_
                  rotate_left
                  · (intro w hSw; (try dsimp only at hSw); go_simp; try with_reducible rfl)
                  try simp only [Act.put, List.getElem_toArray, List.getElem_cons_zero, List.getElem_cons_succ, List.setIfInBounds_toArray, List.set_cons_zero, List.set_cons_succ]
                  refine wpAnyH_take (i := 5) (v := ?_) (o_at HG 5 rfl) Gns (by kernel_rfl) (by kernel_rfl) (fun _ _ _ h => h) (Or.inl ⟨(by kernel_rfl), ?_⟩) (by first | trivial | assumption) ?_
                  rotate_left
                  · (intro w hSw; (try dsimp only at hSw); go_simp; try with_reducible rfl)
                  try simp only [Act.put, List.getElem_toArray, List.getElem_cons_zero, List.getElem_cons_succ, List.setIfInBounds_toArray, List.set_cons_zero, List.set_cons_succ]
                  refine wpAnyH_take (i := 6) (v := ?_) (o_at HG 6 rfl) Gns (by kernel_rfl) (by kernel_rfl) (fun _ _ _ h => h) (Or.inl ⟨(by kernel_rfl), ?_⟩) (by first | trivial | assumption) ?_
                  rotate_left
                  · (intro w hSw; (try dsimp only at hSw); go_simp; try with_reducible rfl)
                  try simp only [Act.put, List.getElem_toArray, List.getElem_cons_zero, List.getElem_cons_succ, List.setIfInBounds_toArray, List.set_cons_zero, List.set_cons_succ]
                  refine wpAnyH_take (i := 7) (v := ?_) (o_at HG 7 rfl) Gns (by kernel_rfl) (by kernel_rfl) (fun _ _ _ h => h) (Or.inl ⟨(by kernel_rfl), ?_⟩) (by first | trivial | assumption) ?_
                  rotate_left
                  · (intro w hSw; (try dsimp only at hSw); go_simp; try with_reducible rfl)
                  try simp only [Act.put, List.getElem_toArray, List.getElem_cons_zero, List.getElem_cons_succ, List.setIfInBounds_toArray, List.set_cons_zero, List.set_cons_succ]
                  refine wpAnyH_take (i := 8) (v := ?_) (o_at HG 8 rfl) Gns (by kernel_rfl) (by kernel_rfl) (fun _ _ _ h => h) (Or.inl ⟨(by kernel_rfl), ?_⟩) (by first | trivial | assumption) ?_
                  rotate_left
                  · (intro w hSw; (try dsimp only at hSw); go_simp; try with_reducible rfl)
                  try simp only [Act.put, List.getElem_toArray, List.getElem_cons_zero, List.getElem_cons_succ, List.setIfInBounds_toArray, List.set_cons_zero, List.set_cons_succ]
                  refine wpAnyH_take (i := 9) (v := ?_) (o_at HG 9 rfl) Gns (by kernel_rfl) (by kernel_rfl) (fun _ _ _ h => h) (Or.inl ⟨(by kernel_rfl), ?_⟩) (by first | trivial | assumption) ?_
                  rotate_left
                  · (intro w hSw; (try dsimp only at hSw); go_simp; try with_reducible rfl)
                  try simp only [Act.put, List.getElem_toArray, List.getElem_cons_zero, List.getElem_cons_succ, List.setIfInBounds_toArray, List.set_cons_zero, List.set_cons_succ]
                  refine wpAnyH_take (i := 10) (v := ?_) (o_at HG 10 rfl) Gns (by kernel_rfl) (by kernel_rfl) (fun _ _ _ h => h) (Or.inl ⟨(by kernel_rfl), ?_⟩) (by first | trivial | assumption) ?_
                  rotate_left
                  · (intro w hSw; (try dsimp only at hSw); go_simp; try with_reducible rfl)
                  try simp only [Act.put, List.getElem_toArray, List.getElem_cons_zero, List.getElem_cons_succ, List.setIfInBounds_toArray, List.set_cons_zero, List.set_cons_succ]
                  refine wpAnyH_ready (rs := [11]) (by kernel_rfl) (by simp) ?_
                  refine AllReadyH.cons (o_at HG 11 rfl) ?_ (AllReadyH.nil)
                  · intro K' hK
                    rw [if_pos (by kernel_rfl)]
                    go_simp
                    (with_reducible refine (same_true q.id q.to q.A q2.A q.c q2.c q.b V RQ1.out RQ2.out).mono ?_)
                    rintro e w9 ⟨rfl, hb9⟩
                    refine hK.out _ _ (HSV43.out _ hb9) (fun _ => ?_)
                    have HB9 := Lib.hid hb9
                    clear hb9
                    try simp only [Act.put, List.getElem_toArray, List.getElem_cons_zero, List.getElem_cons_succ, List.setIfInBounds_toArray, List.set_cons_zero, List.set_cons_succ]
                    refine wpAnyH_take (i := 12) (v := ?_) (o_at HG 12 rfl) Gns (by kernel_rfl) (by kernel_rfl) (fun _ _ _ h => h) (Or.inl ⟨(by kernel_rfl), ?_⟩) (by first | trivial | assumption) ?_
                    rotate_left
                    · (intro w hSw; (try dsimp only at hSw); go_simp; try with_reducible rfl)
                    try simp only [Act.put, List.getElem_toArray, List.getElem_cons_zero, List.getElem_cons_succ, List.setIfInBounds_toArray, List.set_cons_zero, List.set_cons_succ]
                    refine wpAnyH_done (by kernel_rfl) ?_ _
                    obtain ⟨y0, y1, -⟩ := HSV43.out _ HB9.out
                    have HB9' := Lib.hid (bel_then HB3'.out HB9.out)
                    have HO9 := Lib.hid (own_keep HO3.out fun k hk => HB9.out.block k (World.ownsRow.lt HO3.out k hk).2)
                    clear HSV43 HB3' HO3 RQ1 RQ2 hS0
                    by_cases hto : q.to = tt
                    · subst hto
                      go_wp2_with (first | (at_builtin; go_loud (refine wp_app rfl _ _ 53 rfl w7.heap.size 3 (.int .i64 0) 1 8 Try.underlying53 info3 rfl (by decide) u24 xs.length (xs.map (Value.int .i64)) rfl (own_keep HO9.out fun k hk => (bel_alloc (Below.refl _ _) _).block k (World.ownsRow.lt HO9.out k hk).2) _ 1 _ [.int .i64 q.id] rfl rfl (fun e => by cases e) (fun _ => ⟨_, rfl, fun j u hu => cell_alloc _ _ _ _ _ (by simp) j u (by simpa using hu)⟩) (by intro u hu; simp only [List.mem_cons, List.not_mem_nil, or_false] at hu; rcases hu with rfl; rfl) (by unfold maxLen; omega) (by omega) (bel_then HB9'.out (bel_alloc (Below.refl _ _) _)).size ?_); intro v1 w5 ho5 hg5 hv5; have HO5 := Lib.hid ho5; have HG5 := Lib.hid hg5; clear ho5 hg5 hv5) | fail)
                      go_roundw
                      case rel =>
                        refine ⟨k3 + 1, xs ++ [q.id], by omega, by go_num, by simp; omega, Lib.hid ?_, Lib.hid ?_, Lib.hid ?_⟩
                        · rw [HST.out, ← HX.out, if_pos rfl]
                        · have := HO5.out
                          unfold OI
                          rw [List.length_append, List.map_append]
                          exact this
                        · exact bel_grown (bel_then HB9'.out (bel_alloc (Below.refl _ _) _)) HG5.out (fun k hk => (World.ownsRow.lt HO9.out k hk).1)
                      case measure => simp [intOf]; omega
                    · go_wp2
                      go_roundw
                      case rel =>
                        refine ⟨k3 + 1, xs, by omega, by go_num, by omega, Lib.hid ?_, HO9, HB9'⟩
                        rw [HST.out, ← HX.out, if_neg hto, List.append_nil]
                      case measure => simp [intOf]; omega
                · obtain rfl : k3 = n3 := by omega
                  have hxs2 : xs = idsFor ps' tt := by rw [HX.out, List.take_of_length_le (by rw [HN3.out]; exact Nat.le_refl _), idsFor_key HK7.out]
                  have HXS := Lib.hid hxs2
                  have hbw : Below wc.heap.size wc wr := bel_then HB7.out HB3.out
                  have HBW := Lib.hid hbw
                  clear hxs2 hbw HX
                  go_wp2_with fail
                  refine (to_any _ ps' tt wr (by have := key_len HB2.out.eq; omega) (HWT2.out wr HBW.out)).mono ?_
                  rintro e w10 ⟨v10, rfl, ho10, hb10⟩
                  obtain ⟨A10, c10, rfl, -, hri10⟩ := ho10.reads
                  obtain ⟨A11, c11, rfl, -, hri11⟩ := OI.reads HO.out
                  have HR10 := Lib.hid hri10
                  have HR11 := Lib.hid (hri11.below hb10)
                  have HB10 := Lib.hid (bel_then HBW.out hb10)
                  rw [HXS.out] at HR11 ⊢
                  clear hri10 hri11 ho10 hb10
                  obtain ⟨m10, hm10⟩ : ∃ m, m = (idsFor ps' tt).length := ⟨_, rfl⟩
                  have hin := fun (W : World) => ints_true A10 A11 c10 c11 (idsFor ps' tt) W
                  rw [← hm10] at hin ⊢
                  have HIN := Lib.hid hin
                  clear hm10 hin
                  go_wp2_with fail
                  refine (HIN.out _ HR10.out HR11.out).mono ?_
                  rintro e w11 ⟨rfl, hb11⟩
                  have HF11 := Lib.hid (HB2.out.grow (bel_then HB10.out hb11) (fun _ => 0))
                  clear hb11
                  go_wp2
                  go_roundw
                  case rel => exact ⟨j + 1, last', ps', qs', _, by omega, by go_num, hl0', by omega, by omega, HF11⟩
                  case measure => simp [intOf]; omega
          · go_wp2_with fail
            refine (awake_any wr).mono ?_
            rintro e w1 ⟨rfl, hb⟩
            have HB1 := Lib.hid (bel_then HBO.out.old.below hb)
            clear hb
            go_wp2
            go_ret
            exact ⟨rfl, HB1.out⟩
end Go.Proofs.Ytbjkeakehdljlaa
