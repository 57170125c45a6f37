/- The walk of slices.Delete on frames: one frame is taken out. Conditions: none. -/
import Derived.Test.YtbjkeakehdljlaaAdds
import Derived.Deep.RegionLaw
namespace Go.Proofs.Ytbjkeakehdljlaa
set_option linter.unusedVariables false
set_option linter.unusedSimpArgs false
open Go.RowKit

theorem step_app_run {P : Program} {w w' : World} {ops : Array Oper} {o : Oper} {a : Act} {K : Act → World → Prop} {Q : Exit → Act → World → Prop} {E : Prop} (hw : Region.wanted o (yielded ops a.tmps) = true) (s x : Operand) (t : TypeId)
    (ho : o.op = .call { callee := .builtin .append, args := #[s, x], argTypes := #[t, t] }) (u v r : Value) (hs : a.eval s = u) (hx : a.eval x = v)
    (hr : (Builtin.append_ #[t, t] o.type #[u, v]).run P w = .ok r w') (h : K (a.put o.dst r) w') : if Region.wanted o (yielded ops a.tmps) = true then Oper.wp P o a w K Q else E := by
  rw [if_pos hw]
  unfold Oper.wp execOp
  simp only [ho, resolve, invoke, builtin, Sem.run_bind, Sem.run_pure, Result.andThen_ok, List.map_toArray, List.map_cons, List.map_nil, hs, hx, hr]
  exact h
def zero3 : List Value := [.int .i64 0, .int .i64 0, .slice none 0 0]
theorem run_clear_one (w : World) (ty : TypeId) (g o c : Nat) (cur : Array Value) (hg : w.heap[g]? = some (.cells cur 31 (0, 0))) (hl : o + 3 ≤ cur.size) :
    (Builtin.clear_ #[34] ty #[.slice (some ⟨g, o, none⟩) 1 c]).run Try.prog w = .ok (.tuple #[]) (w.setRow g (cur.toList.take o ++ zero3 ++ cur.toList.drop (o + 3)).toArray) := by
  have hi : (Try.prog.info? 31).map (fun i => (i.zero, i.size, i.bytes)) = some (some (.agg #[.int .i64 0, .int .i64 0, .slice none 0 0]), 3, 40) := by kernel_rfl
  obtain ⟨i, hi0, hi1⟩ := Option.map_eq_some_iff.1 hi
  simp only [Prod.mk.injEq] at hi1
  have hst := run_storeCells_at Try.prog g o 31 zero3 0 cur w hg (by simp [zero3]; omega) (by intro v hv; simp [zero3] at hv; rcases hv with rfl | rfl | rfl <;> rfl)
  have hzc : (Builtin.zeroCells (Value.agg #[.int .i64 0, .int .i64 0, .slice none 0 0]).cells 1).toList = zero3 := by kernel_rfl
  simp only [Nat.add_zero] at hst
  simp only [Builtin.clear_, Sem.run_bind, run_underlying Try.underlying34, Result.andThen_ok]
  simp [zeroValue, typeInfo, hi0, hi1.1]
  rw [hzc, hst]
  simp [zero3]

theorem del_row (cur : List Value) (ps : List P) (i m : Nat) (hi : i < ps.length) (hc : cur.take (ps.length * 3) = rowOf ps) (hl : ps.length * 3 ≤ cur.length) (hm : m + i + 1 = ps.length) :
    (((cur.take (i * 3) ++ (rowOf ps).drop ((i + 1) * 3) ++ cur.drop (i * 3 + m * 3))).take ((ps.length - 1) * 3) = rowOf (ps.eraseIdx i)) := by
  have h1 : cur.take (i * 3) = rowOf (ps.take i) := by
    have : (cur.take (ps.length * 3)).take (i * 3) = cur.take (i * 3) := by rw [List.take_take]; congr 1; omega
    rw [← this, hc]
    conv => lhs; rw [← List.take_append_drop i ps, rowOf_append]
    rw [List.take_left' (by rw [rowOf_length, List.length_take]; omega)]
  have h2 : (rowOf ps).drop ((i + 1) * 3) = rowOf (ps.drop (i + 1)) := by
    conv => lhs; rw [← List.take_append_drop (i + 1) ps, rowOf_append]
    rw [List.drop_left' (by rw [rowOf_length, List.length_take]; omega)]
  rw [h1, h2, List.take_left' (by rw [List.length_append, rowOf_length, rowOf_length, List.length_take, List.length_drop]; omega), ← rowOf_append, List.eraseIdx_eq_take_drop_succ]

def DelP (g base : Nat) (ps : List P) (i : Nat) (w : World) (e : Ending) (w' : World) : Prop := ∃ c, e = .returned (.slice (some ⟨g, 0, none⟩) (ps.length - 1) c) ∧ w'.ownsRow base 31 3 (.slice (some ⟨g, 0, none⟩) (ps.length - 1) c) (ps.length - 1) (rowOf (ps.eraseIdx i)) ∧ Keeps (fun k => k = g) w w'

set_option maxHeartbeats 1000000 in
theorem delete_any (g base c : Nat) (ps : List P) (i : Nat) (w : World) (h : w.ownsRow base 31 3 (.slice (some ⟨g, 0, none⟩) ps.length c) ps.length (rowOf ps)) (hi : i < ps.length) (hps : ps.length ≤ 1000000) :
    Calls Try.prog 23 #[.slice (some ⟨g, 0, none⟩) ps.length c, .int .i64 i, .int .i64 (i + 1)] w (DelP g base ps i w) := by
  rcases h.2 with ⟨he, _⟩ | ⟨g', cap, cur, he, hb, hg, h1, h2, h3, h4⟩
  · cases he
  cases he
  have HG := Lib.hid hg
  have H4 := Lib.hid h4
  have H3 := Lib.hid h3
  clear h hg h4 h3
  obtain ⟨n, hn⟩ : ∃ n, ps.length = n := ⟨_, rfl⟩
  rw [hn] at hi hps h1 H4
  rw [hn]
  have HN := Lib.hid hn
  clear hn
  have b1 : i + 1 ≤ n := by omega
  have b2 : i ≤ n := by omega
  have b3 : i ≤ c := by omega
  have b4 : i + 1 ≤ c := by omega
  have b5 : (i : Int) + 1 ≤ (n : Int) := by omega
  obtain ⟨a, hA, hnews⟩ : ∃ a, (if c = i + 1 then (some ⟨g, 0, none⟩ : Option Addr) else some ⟨g, (i + 1) * 3, none⟩) = some a ∧ ∀ j u, ((rowOf ps).drop ((i + 1) * 3))[j]? = some u → w.drew.cell? (a.add j) = some u := by
    by_cases hci : c = i + 1
    · refine ⟨_, if_pos hci, fun j u hu => ?_⟩
      rw [List.getElem?_drop] at hu
      have := (List.getElem?_eq_some_iff.1 hu).1
      rw [rowOf_length, HN.out] at this
      omega
    · refine ⟨_, if_neg hci, fun j u hu => ?_⟩
      have e : (⟨g, (i + 1) * 3, none⟩ : Addr).add j = ⟨g, (i + 1) * 3 + j, none⟩ := by unfold Addr.add; split <;> simp_all
      rw [e]
      show w.cell? _ = _
      rw [cell_of_row w g _ cur 31 (0, 0) HG.out]
      rw [List.getElem?_drop, ← H4.out, List.getElem?_take] at hu
      split at hu
      · simpa using hu
      · cases hu
  obtain ⟨ii, hi0, hi1⟩ := Option.map_eq_some_iff.1 (show (Try.prog.info? 31).map (fun i => (i.zero, i.size, i.bytes)) = some (some (.agg #[.int .i64 0, .int .i64 0, .slice none 0 0]), 3, 40) by kernel_rfl)
  simp only [Prod.mk.injEq] at hi1
  obtain ⟨row1, hrow1⟩ : ∃ r : Array Value, r = (cur.toList.take (i * 3) ++ (rowOf ps).drop ((i + 1) * 3) ++ cur.toList.drop (i * 3 + (n - (i + 1)) * 3)).toArray := ⟨_, rfl⟩
  have hap : (Builtin.append_ #[34, 34] 34 #[.slice (some ⟨g, 0, none⟩) i c, .slice (some a) (n - (i + 1)) (c - (i + 1))]).run Try.prog w.drew = .ok (.slice (some ⟨g, 0, none⟩) (n - 1) c) (w.drew.setRow g row1) := by
    have hln : ((rowOf ps).drop ((i + 1) * 3)).length = (n - (i + 1)) * 3 := by rw [List.length_drop, rowOf_length, HN.out]; omega
    have := run_append_room (P := Try.prog) w.drew 34 34 31 ii Try.underlying34 hi0 g i c cur HG.out a (n - (i + 1)) (c - (i + 1)) ((rowOf ps).drop ((i + 1) * 3)) (by rw [hln, hi1.2.1]) hnews ?_ (by omega) (by rw [hln, hi1.2.1, H3.out]; omega)
    · rw [hln, hi1.2.1, ← hrow1, show i + (n - (i + 1)) = n - 1 by omega] at this
      exact this
    · intro u hu
      have hu2 := List.mem_of_mem_drop hu
      simp only [rowOf, List.mem_flatMap, pcells, List.mem_cons, List.not_mem_nil, or_false] at hu2
      obtain ⟨p, _, rfl | rfl | rfl⟩ := hu2 <;> rfl
  have HAP := Lib.hid hap
  have b6 : (0 : Int) ≤ (i : Int) + 1 := by omega
  clear hnews hi0 hi1 hap
  have HROW1 := Lib.hid hrow1
  clear hrow1
  go_enter Try.func23, Try.ntmps23
  go_wp2
  go_region_law (refine step_app_run rfl (.tmp 22) (.tmp 25) 34 rfl _ _ _ rfl rfl HAP.out ?_)
  have hg2 : (w.drew.setRow g row1).heap[g]? = some (.cells row1 31 (0, 0)) := setRow_heap w.drew g cur row1 31 (0, 0) HG.out
  have hk2 : Keeps (fun k => k = g) w (w.drew.setRow g row1) := ⟨rfl, rfl, rfl, by rw [setRow_size]; exact Nat.le_refl _, fun k _ hk => setRow_other w.drew g k row1 hk⟩
  have HG2 := Lib.hid hg2
  have HK2 := Lib.hid hk2
  clear hg2 hk2
  generalize w.drew.setRow g row1 = W at *
  have c1 : n - 1 ≤ n := by omega
  have c2 : n ≤ c := h1
  have c3 : ¬ c = n - 1 := by omega
  have c4 : n - (n - 1) = 1 := by omega
  have hsz : row1.size = c * 3 := by
    rw [HROW1.out, List.size_toArray, List.length_append, List.length_append, List.length_take, List.length_drop, List.length_drop, rowOf_length, HN.out, Array.length_toList, H3.out]
    omega
  have hrow : row1.toList.take ((n - 1) * 3) = rowOf (ps.eraseIdx i) := by
    have := del_row cur.toList ps i (n - (i + 1)) (by rw [HN.out]; exact hi) (by rw [HN.out]; exact H4.out) (by rw [HN.out, Array.length_toList, H3.out]; omega) (by rw [HN.out]; omega)
    rw [HN.out] at this
    rw [HROW1.out]
    exact this
  have HSZ := Lib.hid hsz
  have HROW := Lib.hid hrow
  have hcl := run_clear_one W 0 g ((n - 1) * 3) (c - (n - 1)) row1 HG2.out (by rw [HSZ.out]; omega)
  clear hsz hrow
  go_wp2
  go_ret
  refine ⟨c, by rw [HN.out]; rfl, ?_, HK2.out.trans ⟨rfl, rfl, rfl, by simp, fun k _ hk => setRow_other W g k _ (fun e => hk (.inl e))⟩⟩
  rw [HN.out]
  have he : (ps.eraseIdx i).length = n - 1 := by rw [List.length_eraseIdx_of_lt (by rw [HN.out]; exact hi), HN.out]
  have hl1 : (row1.toList.take ((n - 1) * 3)).length = (n - 1) * 3 := by rw [List.length_take, Array.length_toList, HSZ.out]; omega
  refine ⟨by rw [rowOf_length, he], .inr ⟨g, c, _, rfl, hb, setRow_heap W g row1 _ 31 (0, 0) HG2.out, by omega, h2, ?_, ?_⟩⟩
  · simp only [List.size_toArray, Array.size_append, List.length_append, hl1, List.length_drop, Array.length_toList, HSZ.out, zero3, List.length_cons, List.length_nil]
    omega
  · simp only [List.append_assoc]
    rw [List.take_left' hl1]
    exact HROW.out
end Go.Proofs.Ytbjkeakehdljlaa
