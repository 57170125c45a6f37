/- The walk of To: the numbers of what waits for one. Conditions: none. -/
import Derived.Test.YtbjkeakehdljlaaWait
namespace Go.Proofs.Ytbjkeakehdljlaa
set_option linter.unusedVariables false
set_option linter.unusedSimpArgs false
open Go.RowKit

theorem info3 : (Try.prog.info? 3).map (fun i => (i.zero, i.size, i.bytes)) = some (some (.int .i64 0), 1, 8) := by kernel_rfl
/-- A row of ints of the call's own. -/
def OI (w : World) (base : Nat) (v : Value) (xs : List Int) : Prop := w.ownsRow base 3 1 v xs.length (xs.map (Value.int .i64))
theorem OI.nil (w : World) (base : Nat) : OI w base (.slice none 0 0) [] := World.ownsRow_nil w base 3 1
theorem OI.reads {w : World} {base : Nat} {v : Value} {xs : List Int} (h : OI w base v xs) : ∃ A c, v = .slice A xs.length c ∧ SV A xs.length c ∧ RI w A xs := by
  rcases h.2 with ⟨rfl, h0⟩ | ⟨g, cap, cur, rfl, hb, hh, h1, h2, h3, h4⟩
  · have : xs = [] := List.eq_nil_of_length_eq_zero h0
    subst this
    exact ⟨none, 0, rfl, ⟨Nat.le_refl _, fun _ => rfl⟩, RI.nil _ _⟩
  · refine ⟨_, cap, rfl, ⟨h1, fun h => by cases h⟩, RI.mk' (by simp only [maxLen] at h2; omega) fun hp => ⟨_, rfl, fun j hj => ?_⟩⟩
    exact World.ownsRow.cells h (g := g) rfl j _ (by simp [List.getD_eq_getElem?_getD, List.getElem?_eq_getElem hj])
def idsFor (ps : List P) (to : Int) : List Int := (ps.filter (fun p => decide (p.to = to))).map P.id
theorem idsFor_key {ps qs : List P} (h : qs.map key = ps.map key) (to : Int) : idsFor qs to = idsFor ps to := by
  have e : ∀ l : List P, idsFor l to = ((l.map key).filter (fun k => decide (k.2.1 = to))).map (fun k => k.1) := by
    intro l
    induction l with
    | nil => rfl
    | cons p l ih =>
      simp only [idsFor, List.map_cons, List.filter_cons] at *
      by_cases hp : p.to = to
      · simp [key, hp, ih]
      · simp [key, hp, ih]
  rw [e, e, h]
theorem idsFor_step {ps : List P} {k : Nat} {p : P} (hp : ps[k]? = some p) (to : Int) : idsFor (ps.take (k + 1)) to = idsFor (ps.take k) to ++ (if p.to = to then [p.id] else []) := by
  rw [List.take_add_one, hp]
  unfold idsFor
  rw [List.filter_append, List.map_append]
  by_cases h : p.to = to
  · simp [h]
  · simp [h]
theorem idsFor_len (ps : List P) (to : Int) : (idsFor ps to).length ≤ ps.length := by
  unfold idsFor
  rw [List.length_map]
  exact List.length_filter_le _ _

def ToQ (ps : List P) (to : Int) (w : World) (e : Ending) (w' : World) : Prop := ∃ v, e = .returned v ∧ OI w' w.heap.size v (idsFor ps to) ∧ Below w.heap.size w w'

set_option maxHeartbeats 2000000 in
theorem to_any (p : Option Addr) (ps : List P) (to : Int) (w : World) (hlen : ps.length ≤ 1000000) (h : Calls Try.prog 11 #[.pointer p] w (WaitQ ps w)) :
    Calls Try.prog 19 #[.pointer p, .int .i64 to] w (ToQ ps to w) := by
  have H := Lib.hid h
  clear h
  go_enter Try.func19, Try.ntmps19
  go_wp2_with fail
  refine H.out.mono ?_
  rintro e w1 ⟨v, qs, rfl, hk, hof, hb⟩
  obtain ⟨A, c, rfl, hr⟩ := hof.reads
  have HR := Lib.hid hr
  have HKY := Lib.hid hk
  have HB1 := Lib.hid hb
  obtain ⟨n, hn⟩ : ∃ n, qs.length = n := ⟨_, rfl⟩
  have hn2 : n ≤ 1000000 := by
    have := congrArg List.length hk
    simp only [List.length_map] at this
    omega
  have HN := Lib.hid hn
  rw [hn]
  clear hr hk hb hof hn hlen
  go_wp2
  go_loopw [4, 6, 10] (fun u4 u6 u10 w' => ∃ (k : Nat) (xs : List Int), k ≤ n ∧ u10 = .int .i64 k ∧ xs.length ≤ k ∧ Hid (xs = idsFor (qs.take k) to) ∧ Hid (OI w' w1.heap.size u4 xs) ∧ Hid (Below w1.heap.size w1 w')) (fun _ _ u10 _ => n - (intOf u10).toNat)
  case atStart => exact ⟨0, [], Nat.zero_le _, rfl, Nat.le_refl _, Lib.hid rfl, Lib.hid (OI.nil _ _), Lib.hid (Below.refl _ _)⟩
  case round =>
    obtain ⟨k, xs, hk, rfl, hxs, HX, HO, HB⟩ := hrel
    by_cases hlt : k < n
    · obtain ⟨q, hq⟩ : ∃ q, q = qs[k]'(by rw [HN.out]; exact hlt) := ⟨_, rfl⟩
      have hq2 : qs[k]? = some q := by rw [hq]; exact List.getElem?_eq_getElem _
      obtain ⟨gg, rfl, hc0, hc1', hc2⟩ := HR.out.at_ k q hq2
      have hb0 := (HB.out.cell (World.block_lt_of_cell? _ _ hc0)).trans hc0
      have hb1 := (HB.out.cell (World.block_lt_of_cell? _ _ hc1')).trans hc1'
      have hb2 := (HB.out.cell (World.block_lt_of_cell? _ _ hc2)).trans hc2
      have HST := Lib.hid (idsFor_step hq2 to)
      clear hc0 hc1' hc2 hq hq2
      have hs0 : (wr.alloc (.cells #[.int .i64 q.id, .int .i64 q.to, .slice q.A q.b.length q.c] 31)).cell? ⟨wr.heap.size, 0, none⟩ = some (.int .i64 q.id) := cell_alloc' _ _ 31 0 _ rfl
      have hs1 : (wr.alloc (.cells #[.int .i64 q.id, .int .i64 q.to, .slice q.A q.b.length q.c] 31)).cell? ⟨wr.heap.size, 1, none⟩ = some (.int .i64 q.to) := cell_alloc' _ _ 31 1 _ rfl
      have hbw : Below wr.heap.size wr (wr.alloc (.cells #[.int .i64 q.id, .int .i64 q.to, .slice q.A q.b.length q.c] 31)) := bel_alloc (Below.refl _ _) _
      have HBW := Lib.hid hbw
      clear hbw
      have ho1 : ∀ u, (wr.alloc (.cells #[.int .i64 q.id, .int .i64 q.to, .slice q.A q.b.length q.c] 31)).ownsRow w1.heap.size 3 1 u xs.length (xs.map (Value.int .i64)) → True := fun _ _ => trivial
      clear ho1
      by_cases hto : q.to = to
      · subst hto
        go_wp2_with (first | (at_builtin; go_loud (refine wp_app rfl _ _ 53 rfl w1.heap.size 3 (.int .i64 0) 1 8 Try.underlying53 info3 rfl (by decide) u4 xs.length (xs.map (Value.int .i64)) rfl (own_keep HO.out fun k hk => (bel_alloc HBW.out _).block k (World.ownsRow.lt HO.out k hk).2) _ 1 _ [.int .i64 q.id] rfl rfl (fun e => by cases e) (fun _ => ⟨_, rfl, fun j u hu => cell_alloc _ _ _ _ _ (by simp) j u (by simpa using hu)⟩) (by intro u hu; simp only [List.mem_cons, List.not_mem_nil, or_false] at hu; rcases hu with rfl; rfl) (by unfold maxLen; omega) (by omega) (bel_then HB.out (bel_alloc HBW.out _)).size ?_); intro v1 w5 ho5 hg5 hv5; have HO5 := Lib.hid ho5; have HG5 := Lib.hid hg5; have HV5 := Lib.hid hv5; clear ho5 hg5 hv5) | fail)
        go_round
        case rel =>
          refine ⟨k + 1, xs ++ [q.id], by omega, by go_num, by simp; omega, Lib.hid ?_, Lib.hid ?_, Lib.hid ?_⟩
          · rw [HST.out, ← HX.out, if_pos rfl]
          · have := HO5.out
            unfold OI
            rw [List.length_append, List.map_append]
            exact this
          · exact bel_grown (bel_then HB.out (bel_alloc HBW.out _)) HG5.out (fun k hk => (World.ownsRow.lt HO.out k hk).1)
        case measure => simp [intOf]; omega
      · go_wp2
        go_round
        case rel =>
          refine ⟨k + 1, xs, by omega, by go_num, by omega, Lib.hid ?_, Lib.hid ?_, Lib.hid (bel_then HB.out HBW.out)⟩
          · rw [HST.out, ← HX.out, if_neg hto, List.append_nil]
          · exact own_keep HO.out fun k hk => HBW.out.block k (World.ownsRow.lt HO.out k hk).2
        case measure => simp [intOf]; omega
    · go_wp2
      go_ret
      refine ⟨_, rfl, ?_, bel_then HB1.out HB.out⟩
      have e : xs = idsFor ps to := by rw [HX.out, List.take_of_length_le (by rw [HN.out]; omega), idsFor_key HKY.out]
      rw [← e]
      exact own_mono HO.out HB1.out.size
end Go.Proofs.Ytbjkeakehdljlaa
