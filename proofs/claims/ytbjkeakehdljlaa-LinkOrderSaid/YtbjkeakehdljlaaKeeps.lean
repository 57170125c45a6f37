/- The walk of LinkKeeps: what is taken is what was sent, whatever was done with the bytes in between. Conditions: none. -/
import Derived.Test.YtbjkeakehdljlaaAwake
namespace Go.Proofs.Ytbjkeakehdljlaa
set_option linter.unusedVariables false
set_option linter.unusedSimpArgs false
open Go.RowKit

def dcK (i : Int) : Nat := 10 + i.toNat
/-- The frames that LinkKeeps sends. -/
def sent (b : List UInt8) (i : Nat) : Int × Int × List UInt8 := ((i : Int) + 1, 1, b)
theorem key_at {ps : List P} {l : List (Int × Int × List UInt8)} (h : ps.map key = l) (i : Nat) {x : Int × Int × List UInt8} (hx : l[i]? = some x) : ∃ p, ps[i]? = some p ∧ key p = x := by
  subst h
  rw [List.getElem?_map] at hx
  cases hp : ps[i]? with
  | none => rw [hp] at hx; cases hx
  | some p => rw [hp] at hx; cases hx; exact ⟨p, rfl, rfl⟩
theorem key_mem {ps : List P} {l : List (Int × Int × List UInt8)} (h : ps.map key = l) {p : P} (hp : p ∈ ps) : key p ∈ l := by
  subst h
  exact List.mem_map_of_mem hp
theorem sent_mem {b : List UInt8} {n k : Nat} {x : Int × Int × List UInt8} (h : x ∈ ((List.range n).map (sent b)).drop k) : x.2.2 = b := by
  obtain ⟨i, _, rfl⟩ := List.mem_map.1 (List.mem_of_mem_drop h)
  rfl
theorem store_step {w : World} {col : Nat → Nat} {c : Nat} {a : Addr} (v : Value) (h : col a.block = c) : Step c w col (w.setCell a v) col := ⟨(Keeps.refl _ _).setCell (.inl h) v, fun _ _ => rfl⟩

theorem take_key (dc : Int → Nat) (id g : Nat) (last : Int) (ps : List P) (x to : Int) (b : List UInt8) (w : World) (col : Nat → Nat) (h : LinkAt w col dc id g last ps) (hps : ps.length ≤ 1000000) (i : Nat) (p : P) (hp : ps[i]? = some p) (hk : key p = (x, to, b)) :
    Calls Try.prog 10 #[.pointer (some ⟨g, 0, none⟩), .int .i64 x] w fun e w' => ∃ A' c', e = .returned (.tuple #[.agg #[.int .i64 x, .int .i64 to, .slice A' b.length c'], .int .i64 0]) ∧ ∃ col', Step id w col w' col' ∧ LinkAt w' col' dc id g last (ps.eraseIdx i) ∧ SV A' b.length c' ∧ RC w' col' (dc x) A' b ∧ Hot w' A' b := by
  obtain ⟨pi, pt, pb, pA, pc⟩ := p
  simp only [key, Prod.mk.injEq] at hk
  obtain ⟨rfl, rfl, rfl⟩ := hk
  refine (take_at dc id g last ps _ w col h hps i _ hp rfl).mono ?_
  rintro e w' ⟨rfl, col', s, l, sv, rc⟩
  have hm := List.mem_of_getElem? hp
  exact ⟨pA, pc, rfl, col', s, l, sv, rc, (h.hot _ hm).step (h.dat _ hm).2.1 s (h.dat _ hm).2.2.symm⟩

set_option maxHeartbeats 4000000 in
theorem keeps_walk (A : Option Addr) (c : Nat) (b : List UInt8) (d : Nat) (w : World) (hr : RB w A b) (hc : SV A b.length c) (hb1 : 1 ≤ b.length) (hb2 : b.length ≤ 500) (hd : d ≤ 20) :
    Calls Try.prog 3 #[.slice A b.length c, .int .i64 d] w fun e w' => e = .returned (.bool true) ∧ Below w.heap.size w w' := by
  have HR := Lib.hid hr
  have HC := Lib.hid hc
  clear hr hc
  have hz1 : ((b.length : Int) == 0) = false := by simp; intro e; rw [e] at hb1; simp at hb1
  have hz2 : decide (500 < (b.length : Int)) = false := by simp; omega
  have hz3 : decide ((d : Int) < 0) = false := by simp
  have hz4 : decide (20 < (d : Int)) = false := by simp; omega
  go_enter Try.func3, Try.ntmps3
  go_wp2_with fail
  refine (new_any dcK 1 (by omega) w (fun _ => 0)).mono ?_
  rintro e w1 ⟨g, c1, rfl, s1, l1⟩
  have O1 := Lib.hid ((Old.init w).step s1 (by omega))
  have L1 := Lib.hid l1
  have HS1 := Lib.hid O1.out.below.size
  clear s1 l1
  go_wp2_with (first | (at_builtin; refine wp_app_bytes rfl _ _ 22 rfl w1.heap.size 5 Try.underlying22 info5 _ [] rfl (OB.empty w1 w1.heap.size 5 (Nat.le_refl _) _ rfl) _ _ b rfl HC.out.2 ((HR.out.below O1.out.below).alloc _) (by simp; omega) (by simp) ?_; intro v1 w2 ho hg _; rw [List.nil_append] at ho; have HO := Lib.hid ho; have HB2 := Lib.hid (bel_grown (bel_alloc (Below.refl _ _) _) hg (fun k e => by simp [Value.ownBlock, Act.eval] at e; omega)); clear ho hg) | fail)
  obtain ⟨A1, k1, rfl, sv1, rb1⟩ := HO.out.reads
  have hhot := HO.out.hot
  have L2 := Lib.hid (L1.out.grow HB2.out (fun _ => 2))
  have O2 := Lib.hid (O1.out.grow HB2.out (fun _ => 2))
  have rc2 : RC w2 (paint w1 c1 (fun _ => 2)) 2 A1 b := RC.new 2 rb1 (fun ad e => HO.out.base_ ad.block (by subst e; rfl))
  have RC2 := Lib.hid rc2
  have HOT2 := Lib.hid hhot
  clear hhot rc2 rb1 HB2 HO O1 L1 HS1
  refine (send_ok dcK 1 g 0 [] 1 A1 k1 2 b w2 _ L2.out RC2.out (by omega) sv1 ⟨by omega, by omega, by omega⟩ (by decide) (by simp) (by omega)).mono ?_
  rintro e w3 ⟨rfl, c3, A3, k3, s3, l3⟩
  have O3 := Lib.hid (O2.out.step s3 (by omega))
  have RC3 := Lib.hid (RC2.out.step s3 (by omega))
  have HOT3 := Lib.hid (HOT2.out.step RC2.out s3 (by omega))
  have L3 := Lib.hid l3
  clear s3 l3 O2 RC2 HOT2 L2 sv1
  obtain ⟨ad1, rfl, hcell⟩ := RC3.out.read.at_ 0 (by omega)
  obtain ⟨g1, cur1, rfl, hg1⟩ := HOT3.out (by omega) ad1 rfl
  have hfr1 : w3.frozen? ⟨g1, 0, none⟩ = false := frozen_of_row w3 g1 0 _ _ hg1
  have hcol1 : c3 g1 = 2 := RC3.out.at_ (by omega) _ rfl
  have HCOL := Lib.hid hcol1
  rw [add0] at hcell
  clear hg1 hcol1 RC3 HOT3
  go_wp2
  have s4 := fun v => store_step (w := w3) (col := c3) (c := 2) (a := ⟨g1, 0, none⟩) v HCOL.out
  have o4 := fun v => O3.out.step (s4 v) (by omega)
  have l4 := fun v => L3.out.step (s4 v) (by omega) (fun p hp => by simp at hp; subst hp; show 2 ≠ 10 + _; omega)
  generalize Value.int IntKind.u8 ((((b[0]?.getD 0).toNat : Int) + 1) % 256) = V
  have O4 := Lib.hid (o4 V)
  have L4 := Lib.hid (l4 V)
  clear s4 o4 l4 HCOL hfr1 hcell O3 L3
  generalize w3.setCell ⟨g1, 0, none⟩ V = w4 at *
  go_loopw [9, 10, 11] (fun u9 u10 u11 w' => ∃ (k : Nat) (ps : List P) (col : Nat → Nat), k ≤ d ∧ u9 = .int .i64 k ∧ Hid (ps.map key = (List.range (k + 1)).map (sent b)) ∧ Hid (LinkAt w' col dcK 1 g ((k : Int) + 1) ps) ∧ Hid (Old w w' col)) (fun u9 _ _ _ => d - (intOf u9).toNat)
  case atStart => exact ⟨0, _, c3, Nat.zero_le _, rfl, Lib.hid (by simp [key, sent]), L4, O4⟩
  case round =>
    obtain ⟨k, ps, col, hk, rfl, HK, HL, HO⟩ := hrel
    by_cases hlt : k < d
    · obtain ⟨p, hp, hpk⟩ := key_at HK.out 0 (x := sent b 0) (by simp [List.getElem?_map])
      have hlen : ps.length = k + 1 := by have := congrArg List.length HK.out; simpa using this
      have hb : ∀ q, q ∈ ps → q.b.length ≤ 65536 := fun q hq => by
        have := sent_mem (k := 0) (key_mem HK.out hq)
        simp only [key] at this
        rw [this]; omega
      have hpid : p.id = 1 := by have := congrArg (·.1) hpk; simpa [key, sent] using this
      have hpto : p.to = 1 := by have := congrArg (·.2.1) hpk; simpa [key, sent] using this
      have hpb : p.b = b := by have := congrArg (·.2.2) hpk; simpa [key, sent] using this
      have hdb := double_at dcK 1 g ((k : Int) + 1) ps 1 wr col HL.out (by omega) (by omega) hb (by unfold dcK; omega) 0 p hp hpid
      rw [hpto, hpb] at hdb
      have HD := Lib.hid hdb
      clear hb hdb hp hpk hpid hpto hpb
      go_wp2_with fail
      refine HD.out.mono ?_
      rintro e w5 ⟨rfl, col5, A5, k5, s5, l5⟩
      have L5 := Lib.hid l5
      have O5 := Lib.hid (HO.out.step s5 (by omega))
      clear s5 l5
      go_wp2
      refine ⟨⟨k + 1, ps ++ [⟨(k : Int) + 1 + 1, 1, b, A5, k5⟩], col5, by omega, by go_num, Lib.hid ?_, Lib.hid ?_, O5⟩, by simp [intOf]; omega⟩
      · rw [List.map_append, HK.out, List.range_succ (n := k + 1), List.map_append]
        simp [key, sent]
      · exact L5.out
    · obtain rfl : k = d := by omega
      have HKd : Hid (ps.map key = ((List.range (k + 1)).map (sent b)).drop 0) := HK
      clear HK
      clear L4 O4
      go_wp2
      go_loopw [12, 13, 14] (fun u12 u13 u14 w' => ∃ (j : Nat) (qs : List P) (col : Nat → Nat), j ≤ k + 1 ∧ u12 = .int .i64 j ∧ Hid (qs.map key = ((List.range (k + 1)).map (sent b)).drop j) ∧ Hid (LinkAt w' col dcK 1 g ((k : Int) + 1) qs) ∧ Hid (Old w w' col)) (fun u12 _ _ _ => k + 1 - (intOf u12).toNat)
      case atStart => exact ⟨0, ps, col, Nat.zero_le _, rfl, HKd, HL, HO⟩
      case round =>
        clear HL HO HKd
        obtain ⟨j, qs, col, hj, rfl, HK, HL, HO⟩ := hrel
        have hlen : qs.length = k + 1 - j := by have := congrArg List.length HK.out; simpa using this
        by_cases hlt : j < k + 1
        · obtain ⟨p, hp, hpk⟩ := key_at HK.out 0 (x := sent b j) (by simp [List.getElem?_map, List.getElem?_drop, hlt])
          have htk := take_key dcK 1 g ((k : Int) + 1) qs ((j : Int) + 1) 1 b wr col HL.out (by omega) 0 p hp hpk
          rw [Int.add_comm] at htk
          have HT := Lib.hid htk
          clear htk hp hpk
          go_wp2_with fail
          refine HT.out.mono ?_
          rintro e w5 ⟨A5, k5, rfl, col5, s5, l5, sv5, rc5, hot5⟩
          have hfr : Below w5.heap.size w5 (w5.alloc (.cells #[.int .i64 (1 + (j : Int)), .int .i64 1, .slice A5 b.length k5] 31)) := bel_alloc (Below.refl _ _) _
          have O5 := Lib.hid ((HO.out.step s5 (by omega)).grow hfr (fun _ => 0))
          have L5 := Lib.hid (l5.grow hfr (fun _ => 0))
          have rc6 := (rc5.recol (fun k hk => paint_old (new := fun _ => 0) hk)).below hfr
          have hot6 := hot5.below rc5.read hfr
          have q1 := conv_str (n := b.length) (c := k5) rfl rc6.read
          have q2 := conv_str (n := b.length) (c := c) rfl (HR.out.below O5.out.below)
          obtain ⟨ad5, rfl, hcell5⟩ := rc6.read.at_ 0 (by omega)
          obtain ⟨g5, cur5, rfl, hg5⟩ := hot6 (by omega) ad5 rfl
          have hfr5 := frozen_of_row _ g5 0 _ _ hg5
          have hcol5 := rc6.at_ (by omega) _ rfl
          have HC5 := Lib.hid hcol5
          rw [add0] at hcell5
          have e0 := cell_alloc' w5 #[.int .i64 (1 + (j : Int)), .int .i64 1, .slice (some ⟨g5, 0, none⟩) b.length k5] 31 1 _ rfl
          have e1 := cell_alloc' w5 #[.int .i64 (1 + (j : Int)), .int .i64 1, .slice (some ⟨g5, 0, none⟩) b.length k5] 31 2 _ rfl
          have HNE : Hid (∀ q, q ∈ qs.eraseIdx 0 → dcK (1 + (j : Int)) ≠ dcK q.id) := Lib.hid (fun q hq => by
            have hq2 : key q ∈ ((List.range (k + 1)).map (sent b)).drop (j + 1) := by
              rw [← List.drop_drop, ← HK.out]
              have : qs.eraseIdx 0 = qs.drop 1 := by cases qs <;> simp
              rw [this] at hq
              rw [← List.map_drop]
              exact List.mem_map_of_mem hq
            obtain ⟨i, hi⟩ := List.getElem?_of_mem hq2
            rw [List.getElem?_drop, List.getElem?_map] at hi
            obtain ⟨a, ha, hb⟩ := Option.map_eq_some_iff.1 hi
            have ha2 := (List.getElem?_eq_some_iff.1 ha)
            obtain ⟨ha3, ha4⟩ := ha2
            rw [List.getElem_range] at ha4
            have : q.id = (a : Int) + 1 := (congrArg (·.1) hb).symm
            rw [this]
            unfold dcK
            omega)
          clear hfr s5 l5 sv5 rc5 hot5 rc6 hot6 hg5 hcol5
          go_wp2
          have s6 := fun v => store_step (w := w5.alloc (.cells #[.int .i64 (1 + (j : Int)), .int .i64 1, .slice (some ⟨g5, 0, none⟩) b.length k5] 31)) (col := paint w5 col5 (fun _ => 0)) (a := ⟨g5, 0, none⟩) v HC5.out
          have o6 := fun v => O5.out.step (s6 v) (by unfold dcK; omega)
          have l6 := fun v => L5.out.step (s6 v) (by unfold dcK; omega) HNE.out
          go_round
          case rel =>
            refine ⟨j + 1, qs.eraseIdx 0, _, by omega, by go_num, Lib.hid ?_, Lib.hid (l6 _), Lib.hid (o6 _)⟩
            rw [← List.drop_drop, ← HK.out, ← List.map_drop]
            congr 1
            cases qs <;> simp
          case measure => simp [intOf]; omega
        · obtain rfl : j = k + 1 := by omega
          have hq0 : qs = [] := List.eq_nil_of_length_eq_zero (by omega)
          subst hq0
          clear HK hlen
          go_wp2_with fail
          refine (take_any dcK 1 g ((k : Int) + 1) [] 1 wr col HL.out (by simp)).mono ?_
          rintro e w5 ⟨col5, s5, ⟨h1, rfl, l5⟩ | ⟨i, q, h1, hq, -⟩⟩
          · simp only [noFrame]
            have hfr : Below w5.heap.size w5 (w5.alloc (.cells #[.int .i64 0, .int .i64 0, .slice none 0 0] 31)) := bel_alloc (Below.refl _ _) _
            have O5 := Lib.hid ((HO.out.step s5 (by omega)).grow hfr (fun _ => 0))
            have L5 := Lib.hid (l5.grow hfr (fun _ => 0))
            clear s5 l5 hfr h1 HL HO
            go_wp2_with fail
            obtain ⟨v5, hv5, ho5, -⟩ := L5.out.ex
            obtain ⟨A6, k6, rfl, hfr6⟩ := own_FR ho5
            refine (waiting_any g _ [] A6 k6 _ hv5 hfr6 (fun p hp => by simp at hp) (by simp)).mono ?_
            rintro e w6 ⟨v6, qs, rfl, hk6, hof6, hb6⟩
            have hq0 : qs = [] := by simpa using hk6
            subst hq0
            obtain ⟨A7, k7, rfl, -⟩ := hof6.reads
            have B6 := Lib.hid (bel_then O5.out.below hb6)
            clear hv5 ho5 hfr6 hk6 hof6 hb6 O5 L5
            go_wp2_with fail
            refine (awake_any w6).mono ?_
            rintro e w7 ⟨rfl, hb7⟩
            have B7 := Lib.hid (bel_then B6.out hb7)
            clear hb7 B6
            go_wp2
            go_ret
            exact ⟨rfl, B7.out⟩
          · simp at hq

set_option maxHeartbeats 1000000 in
theorem keeps_main (A : Option Addr) (c : Nat) (b : List UInt8) (d : Int) (w : World) (hr : RB w A b) (hc : SV A b.length c) :
    Calls Try.prog 3 #[.slice A b.length c, .int .i64 d] w fun e w' => e = .returned (.bool true) ∧ Below w.heap.size w w' := by
  by_cases h : 1 ≤ b.length ∧ b.length ≤ 500 ∧ 0 ≤ d ∧ d ≤ 20
  · obtain ⟨h1, h2, h3, h4⟩ := h
    obtain ⟨n, rfl⟩ := Int.eq_ofNat_of_zero_le h3
    exact keeps_walk A c b n w hr hc h1 h2 (by omega)
  · obtain ⟨m, hm⟩ : ∃ m, b.length = m := ⟨_, rfl⟩
    have hz : (((m : Int) == 0) || (decide (500 < (m : Int)) || (decide (d < 0) || decide (20 < d)))) = true := by
      rw [hm] at h
      rcases Nat.eq_zero_or_pos m with h0 | h0
      · subst h0; rfl
      · simp only [Bool.or_eq_true, decide_eq_true_eq]
        omega
    rw [hm]
    clear h hm hr hc
    cases h1 : ((m : Int) == 0) with
    | true =>
      go_enter Try.func3, Try.ntmps3
      go_wp2_with fail
      refine (awake_any w).mono ?_
      rintro e w1 ⟨rfl, hb⟩
      have HB := Lib.hid hb
      clear hb
      go_wp2
      go_ret
      exact ⟨rfl, HB.out⟩
    | false =>
      rw [h1, Bool.false_or] at hz
      cases h2 : decide (500 < (m : Int)) with
      | true =>
        clear hz
        go_enter Try.func3, Try.ntmps3
        go_wp2_with fail
        refine (awake_any w).mono ?_
        rintro e w1 ⟨rfl, hb⟩
        have HB := Lib.hid hb
        clear hb
        go_wp2
        go_ret
        exact ⟨rfl, HB.out⟩
      | false =>
        rw [h2, Bool.false_or] at hz
        cases h3 : decide (d < 0) with
        | true =>
          clear hz
          go_enter Try.func3, Try.ntmps3
          go_wp2_with fail
          refine (awake_any w).mono ?_
          rintro e w1 ⟨rfl, hb⟩
          have HB := Lib.hid hb
          clear hb
          go_wp2
          go_ret
          exact ⟨rfl, HB.out⟩
        | false =>
          rw [h3, Bool.false_or] at hz
          go_enter Try.func3, Try.ntmps3
          go_wp2_with fail
          refine (awake_any w).mono ?_
          rintro e w1 ⟨rfl, hb⟩
          have HB := Lib.hid hb
          clear hb
          go_wp2
          go_ret
          exact ⟨rfl, HB.out⟩
end Go.Proofs.Ytbjkeakehdljlaa
