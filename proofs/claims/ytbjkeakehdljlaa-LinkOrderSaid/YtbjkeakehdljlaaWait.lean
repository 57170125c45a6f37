/- The walks of Waiting and To: what waits is shown, with bytes of its own. Conditions: none. -/
import Derived.Test.YtbjkeakehdljlaaDouble
namespace Go.Proofs.Ytbjkeakehdljlaa
set_option linter.unusedVariables false
set_option linter.unusedSimpArgs false
open Go.RowKit

def key (p : P) : Int × Int × List UInt8 := (p.id, p.to, p.b)
/-- Frames of the call's own, that are read; their row is in v. -/
structure OF (w : World) (base : Nat) (v : Value) (qs : List P) : Prop where
  own : w.ownsRow base 31 3 v qs.length (rowOf qs)
  dat : ∀ q, q ∈ qs → SV q.A q.b.length q.c ∧ RB w q.A q.b ∧ (0 < q.b.length → ∀ ad, q.A = some ad → v.ownBlock ≠ some ad.block)
theorem OF.nil (w : World) (base : Nat) : OF w base (.slice none 0 0) [] := ⟨World.ownsRow_nil w base 31 3, fun q h => by simp at h⟩

theorem OF.reads {w : World} {base : Nat} {v : Value} {qs : List P} (h : OF w base v qs) : ∃ A c, v = .slice A qs.length c ∧ FR w A c qs := own_FR h.own
theorem OF.below {w w' : World} {base : Nat} {v : Value} {qs : List P} (h : OF w base v qs) (hb : Below w.heap.size w w') : OF w' base v qs :=
  ⟨own_keep h.own fun k hk => hb.block k (h.own.lt k hk).2, fun q hq => ⟨(h.dat q hq).1, (h.dat q hq).2.1.below hb, (h.dat q hq).2.2⟩⟩

theorem of_next {w1 w2 w3 : World} {base : Nat} {v v' : Value} {qs : List P} {q : P} (h : OF w1 base v qs) (h12 : Below w1.heap.size w1 w2) (hsv : SV q.A q.b.length q.c) (hrb : RB w2 q.A q.b) (hap : ∀ ad, q.A = some ad → w1.heap.size ≤ ad.block)
    (hg : w2.grownBy w3 v.ownBlock) (ho : w3.ownsRow base 31 3 v' (qs.length + 1) (rowOf qs ++ pcells q)) (hv : v'.ownBlock = v.ownBlock ∨ v'.ownBlock = some w2.heap.size) : OF w3 base v' (qs ++ [q]) := by
  refine ⟨?_, fun p hp => ?_⟩
  · rw [List.length_append, rowOf_append]
    have : rowOf [q] = pcells q := by simp [rowOf]
    rw [this]
    exact ho
  · have key : ∀ (A : Option Addr) (b : List UInt8), RB w2 A b → (0 < b.length → ∀ ad, A = some ad → v.ownBlock ≠ some ad.block) → RB w3 A b ∧ (0 < b.length → ∀ ad, A = some ad → v'.ownBlock ≠ some ad.block) := by
      intro A b hr hn
      refine ⟨hr.keep fun hp ad e => hg.block _ (hr.lt hp ad e) (fun e2 => hn hp ad e e2.symm), fun hp ad e => ?_⟩
      rcases hv with e1 | e1
      · rw [e1]; exact hn hp ad e
      · rw [e1]; intro e2; have := hr.lt hp ad e; have e3 := Option.some.inj e2; omega
    rcases List.mem_append.1 hp with hp | hp
    · obtain ⟨a, b, c⟩ := h.dat p hp
      exact ⟨a, key _ _ (b.below h12) c⟩
    · rw [List.mem_singleton] at hp
      subst hp
      refine ⟨hsv, key _ _ hrb (fun hp ad e e2 => ?_)⟩
      have := (h.own.lt _ e2).2
      have := hap ad e
      omega

def WaitQ (ps : List P) (w : World) (e : Ending) (w' : World) : Prop := ∃ v qs, e = .returned v ∧ qs.map key = ps.map key ∧ OF w' w.heap.size v qs ∧ Below w.heap.size w w'

theorem waiting_nil (w : World) : Calls Try.prog 11 #[.pointer none] w fun e w' => e = .returned (.slice none 0 0) ∧ w = w' := by
  go_enter Try.func11, Try.ntmps11
  go_wp2
  go_ret
  exact ⟨rfl, rfl⟩

set_option maxHeartbeats 2000000 in
theorem waiting_any (g : Nat) (last : Int) (ps : List P) (A : Option Addr) (c : Nat) (w : World) (hg : w.heap[g]? = some (.cells #[.int .i64 last, .slice A ps.length c] 60 (0, 0))) (hr : FR w A c ps) (hd : ∀ p, p ∈ ps → SV p.A p.b.length p.c ∧ RB w p.A p.b ∧ p.b.length ≤ 65536) (hlen : ps.length ≤ 1000000) :
    Calls Try.prog 11 #[.pointer (some ⟨g, 0, none⟩)] w (WaitQ ps w) := by
  have hc1 : w.cell? ⟨g, 1, none⟩ = some (.slice A ps.length c) := by rw [cell_of_row w g 1 _ 60 (0, 0) hg]; rfl
  have HR := Lib.hid hr
  have HD := Lib.hid hd
  obtain ⟨n, hn⟩ : ∃ n, ps.length = n := ⟨_, rfl⟩
  have HN := Lib.hid hn
  rw [hn] at hc1 hlen
  clear hg hr hd hn
  go_enter Try.func11, Try.ntmps11
  go_wp2
  go_loopw [2, 4, 12] (fun u2 u4 u12 w' => ∃ (k : Nat) (qs : List P), k ≤ n ∧ u12 = .int .i64 k ∧ qs.length = k ∧ Hid (qs.map key = (ps.take k).map key) ∧ Hid (OF w' w.heap.size u2 qs) ∧ Hid (Below w.heap.size w w')) (fun _ _ u12 _ => n - (intOf u12).toNat)
  case atStart => exact ⟨0, [], Nat.zero_le _, rfl, rfl, Lib.hid rfl, Lib.hid (OF.nil _ _), Lib.hid (Below.refl _ _)⟩
  case round =>
    obtain ⟨k, qs, hk, rfl, hqs, HK, HO, HB⟩ := hrel
    by_cases hlt : k < n
    · obtain ⟨p, hp⟩ : ∃ p, p = ps[k]'(by rw [HN.out]; exact hlt) := ⟨_, rfl⟩
      have hp2 : ps[k]? = some p := by rw [hp]; exact List.getElem?_eq_getElem _
      have hmem : p ∈ ps := List.mem_of_getElem? hp2
      obtain ⟨gg, rfl, hc0, hc1', hc2⟩ := HR.out.at_ k p hp2
      have hb0 := (HB.out.cell (World.block_lt_of_cell? w _ hc0)).trans hc0
      have hb1 := (HB.out.cell (World.block_lt_of_cell? w _ hc1')).trans hc1'
      have hb2 := (HB.out.cell (World.block_lt_of_cell? w _ hc2)).trans hc2
      obtain ⟨hsv, hrb, hbl⟩ := HD.out p hmem
      have HSV := Lib.hid hsv
      have HRB := Lib.hid hrb
      clear hc0 hc1' hc2 hp hmem hsv hrb
      go_wp2_with fail
      refine (clone_any p.A p.c p.b _ ((HRB.out.below HB.out).alloc _) HSV.out (by omega)).mono ?_
      rintro e w2 ⟨vb, rfl, hob, hbel⟩
      obtain ⟨Ab, cb, rfl, hsvb, hrbb⟩ := hob.reads
      have hbase := hob.base_
      have hg2 := heap_below (heap_alloc_new wr _) hbel
      have hg3 := row_set (j := 2) (.slice Ab p.b.length cb) hg2
      have hf2 : w2.frozen? ⟨wr.heap.size, 2, none⟩ = false := frozen_of_row _ _ 2 _ _ hg2
      have hc2 : w2.cell? ⟨wr.heap.size, 2, none⟩ = some (.slice p.A p.b.length p.c) := by rw [cell_of_row _ _ 2 _ 31 (0, 0) hg2]; rfl
      have hbw3 : Below wr.heap.size wr (w2.setCell ⟨wr.heap.size, 2, none⟩ (.slice Ab p.b.length cb)) := (bel_then (bel_alloc (Below.refl _ _) _) hbel).setCell (Nat.le_refl _) _
      have hrb3 : RB (w2.setCell ⟨wr.heap.size, 2, none⟩ (.slice Ab p.b.length cb)) Ab p.b := hrbb.keep fun hp ad e => by
        subst e
        exact Below.heap_setCell w2 ⟨wr.heap.size, 2, none⟩ _ _ (by have := hbase ad.block rfl; simp at this; show ad.block ≠ wr.heap.size; omega)
      have hap : ∀ ad, Ab = some ad → wr.heap.size ≤ ad.block := fun ad e => by
        subst e
        have := hbase ad.block rfl
        simp at this
        omega
      have HBW3 := Lib.hid hbw3
      have HRB3 := Lib.hid hrb3
      have HAP := Lib.hid hap
      have HSB := Lib.hid hsvb
      have hs0 : (w2.setCell ⟨wr.heap.size, 2, none⟩ (.slice Ab p.b.length cb)).cell? ⟨wr.heap.size, 0, none⟩ = some (.int .i64 p.id) := by rw [cell_of_row _ _ 0 _ 31 (0, 0) hg3]; rfl
      have hs1 : (w2.setCell ⟨wr.heap.size, 2, none⟩ (.slice Ab p.b.length cb)).cell? ⟨wr.heap.size, 1, none⟩ = some (.int .i64 p.to) := by rw [cell_of_row _ _ 1 _ 31 (0, 0) hg3]; rfl
      have hs2 : (w2.setCell ⟨wr.heap.size, 2, none⟩ (.slice Ab p.b.length cb)).cell? ⟨wr.heap.size, 2, none⟩ = some (.slice Ab p.b.length cb) := by rw [cell_of_row _ _ 2 _ 31 (0, 0) hg3]; rfl
      clear hob hbel hsvb hrbb hbase hg2 hg3 hbw3 hrb3 hap
      have ho4 : ((w2.setCell ⟨wr.heap.size, 2, none⟩ (.slice Ab p.b.length cb)).alloc (.cells #[.int .i64 p.id, .int .i64 p.to, .slice Ab p.b.length cb] 31)).ownsRow w.heap.size 31 3 u2 qs.length (rowOf qs) := own_keep HO.out.own fun k hk => (bel_alloc HBW3.out _).block k (HO.out.own.lt k hk).2
      have hsz4 : w.heap.size ≤ ((w2.setCell ⟨wr.heap.size, 2, none⟩ (.slice Ab p.b.length cb)).alloc (.cells #[.int .i64 p.id, .int .i64 p.to, .slice Ab p.b.length cb] 31)).heap.size := (bel_then HB.out (bel_alloc HBW3.out _)).size
      have hn4 : ∀ j u, [Value.int .i64 p.id, .int .i64 p.to, .slice Ab p.b.length cb][j]? = some u → ((w2.setCell ⟨wr.heap.size, 2, none⟩ (.slice Ab p.b.length cb)).alloc (.cells #[.int .i64 p.id, .int .i64 p.to, .slice Ab p.b.length cb] 31)).cell? ((⟨w2.heap.size, 0, none⟩ : Addr).add j) = some u := fun j u hu => by
        have := cell_alloc' (w2.setCell ⟨wr.heap.size, 2, none⟩ (.slice Ab p.b.length cb)) #[.int .i64 p.id, .int .i64 p.to, .slice Ab p.b.length cb] 31 j u hu
        rw [show (w2.setCell ⟨wr.heap.size, 2, none⟩ (.slice Ab p.b.length cb)).heap.size = w2.heap.size from by simp [World.setCell]] at this
        rw [add0]
        exact this
      have HN4 := Lib.hid hn4
      clear hn4
      have HO4 := Lib.hid ho4
      have HSZ4 := Lib.hid hsz4
      clear ho4 hsz4
      obtain ⟨z31, hz31, hzs31⟩ := info31
      go_wp2_with (first | (at_builtin; refine wp_app rfl _ _ 34 rfl w.heap.size 31 z31 3 40 Try.underlying34 hz31 hzs31 (by decide) u2 qs.length (rowOf qs) rfl HO4.out _ 1 _ [.int .i64 p.id, .int .i64 p.to, .slice Ab p.b.length cb] rfl rfl (fun e => by cases e) (fun _ => ⟨_, rfl, HN4.out⟩) (by intro u hu; simp only [List.mem_cons, List.not_mem_nil, or_false] at hu; rcases hu with rfl | rfl | rfl <;> rfl) (by unfold maxLen; omega) (by omega) HSZ4.out ?_; intro v1 w5 ho5 hg5 hv5; have HO5 := Lib.hid ho5; have HG5 := Lib.hid hg5; have HV5 := Lib.hid hv5; clear ho5 hg5 hv5) | fail)
      go_round
      case rel =>
        have hbw4 : Below wr.heap.size wr ((w2.setCell ⟨wr.heap.size, 2, none⟩ (.slice Ab p.b.length cb)).alloc (.cells #[.int .i64 p.id, .int .i64 p.to, .slice Ab p.b.length cb] 31)) := bel_alloc HBW3.out _
        refine ⟨k + 1, qs ++ [⟨p.id, p.to, p.b, Ab, cb⟩], by omega, by go_num, by simp [hqs], Lib.hid ?_, Lib.hid (of_next (q := ⟨p.id, p.to, p.b, Ab, cb⟩) HO.out hbw4 HSB.out (HRB3.out.alloc _) HAP.out HG5.out HO5.out (by simpa using HV5.out)), Lib.hid ?_⟩
        · rw [List.map_append, HK.out, List.take_add_one, hp2, List.map_append]
          rfl
        · exact bel_grown (bel_then HB.out hbw4) HG5.out (fun k hk => (HO.out.own.lt k hk).1)
      case measure => simp [intOf]; omega
    · go_wp2
      go_ret
      refine ⟨_, qs, rfl, ?_, HO.out, HB.out⟩
      rw [HK.out, List.take_of_length_le (by rw [HN.out]; omega)]
end Go.Proofs.Ytbjkeakehdljlaa
