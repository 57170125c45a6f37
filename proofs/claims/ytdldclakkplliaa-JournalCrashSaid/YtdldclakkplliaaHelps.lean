/- The walks of the small functions that every disk and journal uses. Conditions: none. -/
import Derived.Test.YtdldclakkplliaaProg
import Derived.Test.YtdldclakkplliaaCol
import Derived.WalkSpells
import Derived.OwnWalk
import Derived.Laws.OwnMore
namespace Go.Proofs.Ytdldclakkplliaa
set_option linter.unusedVariables false
set_option linter.unusedSimpArgs false
open Go.RowKit

theorem info5 : (Try.prog.info? 5).map (fun i => (i.zero, i.size, i.bytes)) = some (some (.int .u8 0), 1, 1) := by kernel_rfl

/-- slices.Clone's answer: a row of the call's own with the same bytes. -/
def CloneP (b : List UInt8) (w : World) (e : Ending) (w' : World) : Prop := ∃ v, e = .returned v ∧ OB w' w.heap.size 5 v b ∧ Below w.heap.size w w'

set_option maxHeartbeats 400000 in
theorem clone_any (A : Option Addr) (c : Nat) (b : List UInt8) (w : World) (hr : RB w A b) (hc : SV A b.length c) (hb : b.length ≤ 140737488355328) :
    Calls Try.prog 44 #[.slice A b.length c] w (CloneP b w) := by
  have HR := Lib.hid hr
  have HC := Lib.hid hc
  clear hr hc
  have hnil := fun (w : World) (a : Option Addr) (n c : Nat) => Lib.run_eql_slice_nil (P := Try.prog) w 22 5 a n c 0 0 Try.underlying22
  cases A with
  | none =>
    have hb0 : b = [] := by
      rcases Nat.eq_zero_or_pos b.length with h | h
      · exact List.eq_nil_of_length_eq_zero h
      · obtain ⟨_, e, _⟩ := HR.out.at_ 0 h; cases e
    subst hb0
    go_enter Try.func44, Try.ntmps44
    go_wp2
    go_ret
    exact ⟨_, rfl, OB.nil _ _ _, Below.refl _ _⟩
  | some ad =>
    go_enter Try.func44, Try.ntmps44
    go_wp2_with (first | (at_builtin; refine wp_app_bytes rfl _ _ 22 rfl w.heap.size 5 Try.underlying22 info5 _ [] rfl (OB.empty w w.heap.size 5 (Nat.le_refl _) _ rfl) _ _ b rfl HC.out.2 (HR.out.alloc _) (by simp; omega) (by simp) ?_; intro v1 w1 ho hg _; rw [List.nil_append] at ho; have HO := Lib.hid ho; have HB1 := Lib.hid (bel_grown (bel_alloc (Below.refl _ _) _) hg (fun k e => by simp [Value.ownBlock, Act.eval] at e; omega)); clear ho hg) | fail)
    go_ret
    exact ⟨_, rfl, HO.out, HB1.out⟩

theorem tmod_round (k n : Int) (hn : 0 < n) : (k.tmod n < 0 → k.tmod n + n = k % n) ∧ (¬ k.tmod n < 0 → k.tmod n = k % n) := by
  have h := Int.tmod_eq_emod (a := k) (b := n)
  have h1 := Int.emod_nonneg k (by omega : n ≠ 0)
  have h2 := Int.emod_lt_of_pos k hn
  split at h
  · omega
  · rename_i hc
    constructor
    · omega
    · intro h3
      exfalso
      have h4 : k < 0 := by omega
      have h5 : k.tmod n ≤ 0 := by
        have e : k = -(-k) := by omega
        rw [e, Int.neg_tmod]
        have := Int.tmod_nonneg n (show 0 ≤ -k by omega)
        omega
      have : k % n = n := by omega
      omega

theorem round_any (k n : Int) (w : World) (h1 : -9223372036854775808 ≤ k) (h2 : k ≤ 9223372036854775807) (hn : 0 < n) (hn2 : n ≤ 4611686018427387904) :
    Calls Try.prog 27 #[.int .i64 k, .int .i64 n] w fun e w' => e = .returned (.int .i64 (k % n)) ∧ w = w' := by
  go_enter Try.func27, Try.ntmps27
  go_wp2
  · rename_i h
    go_ret
    have hb := Int.tmod_lt_of_pos k hn
    have hr := tmod_round k n hn
    have h1 := Int.emod_nonneg k (by omega : n ≠ 0)
    have h2 := Int.emod_lt_of_pos k hn
    exact ⟨ret_int (by rw [hr.1 h]; unfold wrap64; omega), rfl⟩
  · rename_i h
    go_ret
    have hr := tmod_round k n hn
    exact ⟨ret_int (hr.2 (by omega)), rfl⟩

theorem conv_str {w : World} {A : Option Addr} {bs : List UInt8} {c n : Nat} (hn : n = bs.length) (h : RB w A bs) : (convert 22 9 (.slice A n c)).run Try.prog w = .ok (.string ⟨bs.toArray⟩) w := by
  subst hn
  cases A with
  | none =>
    have hb0 : bs = [] := by
      rcases Nat.eq_zero_or_pos bs.length with h0 | h0
      · exact List.eq_nil_of_length_eq_zero h0
      · obtain ⟨_, e, _⟩ := h.at_ 0 h0; cases e
    subst hb0
    rw [run_convert_bytes_string w 22 9 5 none _ c Try.underlying22 Try.underlying5 Try.underlying9]
    rfl
  | some ad =>
    refine run_convert_bytes_back w 22 9 5 ad c bs Try.underlying22 Try.underlying5 Try.underlying9 fun j hj => ?_
    obtain ⟨ad', e, hc⟩ := h.at_ j hj
    cases e
    rw [hc]
    simp [List.getD_eq_getElem?_getD, List.getElem?_eq_getElem hj]

theorem row_set {w : World} {g j : Nat} {cs : Array Value} {t : TypeId} {fr : Nat × Nat} (v : Value) (h : w.heap[g]? = some (.cells cs t fr)) : (w.setCell ⟨g, j, none⟩ v).heap[g]? = some (.cells (cs.setIfInBounds j v) t fr) := by
  simp [World.setCell, Array.getElem?_modify, h]
theorem cell_alloc' (w : World) (cs : Array Value) (t : TypeId) (j : Nat) (v : Value) (h : cs.toList[j]? = some v) : (w.alloc (.cells cs t)).cell? ⟨w.heap.size, j, none⟩ = some v := by
  rw [cell_of_row _ _ j cs t (0, 0) (heap_alloc_new w _)]
  simpa using h
theorem heap_below {w w' : World} {g : Nat} {o : Obj} (h : w.heap[g]? = some o) (hb : Below w.heap.size w w') : w'.heap[g]? = some o := (hb.block g (Array.getElem?_eq_some_iff.1 h).1).trans h
theorem own_mono {w : World} {base base' : Nat} {e : TypeId} {size n : Nat} {v : Value} {xs : List Value} (h : w.ownsRow base e size v n xs) (hb : base' ≤ base) : w.ownsRow base' e size v n xs := by
  refine ⟨h.1, ?_⟩
  rcases h.2 with hn | ⟨g, cap, cur, rfl, hb2, rest⟩
  · exact .inl hn
  · exact .inr ⟨g, cap, cur, rfl, Nat.le_trans hb hb2, rest⟩

/-! ### pick -/
def pickK (ps : List Int) (k : Nat) : Int := ps.getD k 0
theorem pick_any (A : Option Addr) (c : Nat) (ps : List Int) (k : Nat) (w : World) (hr : RI w A ps) (hk : k ≤ 1000) :
    Calls Try.prog 56 #[.slice A ps.length c, .int .i64 k] w fun e w' => e = .returned (.int .i64 (pickK ps k)) ∧ w = w' := by
  by_cases hl : k < ps.length
  · obtain ⟨ad, rfl, hc⟩ := hr.at_ k hl
    obtain ⟨x, hx⟩ : ∃ x, x = ps.getD k 0 := ⟨_, rfl⟩
    rw [← hx] at hc
    have HX := Lib.hid hx
    clear hr hx
    go_enter Try.func56, Try.ntmps56
    go_wp2
    go_ret
    exact ⟨ret_int (by rw [HX.out]; rfl), rfl⟩
  · have HX : Hid (pickK ps k = 0) := Lib.hid (by unfold pickK; rw [List.getD_eq_getElem?_getD, List.getElem?_eq_none (by omega)]; rfl)
    clear hr
    go_enter Try.func56, Try.ntmps56
    go_wp2
    go_ret
    exact ⟨ret_int HX.out.symm, rfl⟩

/-! ### make -/
theorem below_of_grown {w w' : World} (h : w.grownBy w' none) : Below w.heap.size w w' := ⟨h.os, h.tape, h.output, h.size, fun i hi => h.block i hi (fun e => by cases e)⟩
theorem wp_make {P : Program} {w : World} {ops : Array Oper} {rest : List Oper} {o : Oper} {a : Act} {Q : Exit → Act → World → Prop} (hgd : o.guard = none) (l c : Operand) (t e : TypeId) (hop : o.op = Op.makeSlice t l c)
    (ht : P.underlying t = some (.slice e)) (hinfo : (P.info? e).map (fun i => (i.zero, i.size, i.bytes)) = some (some (.int .u8 0), 1, 1)) (kl kc : IntKind) (n : Nat) (hl : a.eval l = .int kl (n : Int)) (hc : a.eval c = .int kc (n : Int)) (hn : n ≤ 140737488355328)
    (h : ∀ w', OB w' w.heap.size e (.slice (some ⟨w.heap.size, 0, none⟩) n n) (List.replicate n 0) → Below w.heap.size w w' → wpList P ops Q rest (a.put o.dst (.slice (some ⟨w.heap.size, 0, none⟩) n n)) w') : wpList P ops Q (o :: rest) a w := by
  obtain ⟨i, hi, hz⟩ := Option.map_eq_some_iff.1 hinfo
  simp only [Prod.mk.injEq] at hz
  obtain ⟨hz0, hz1, hz2⟩ := hz
  refine wpList_make_full w hgd l c t hop w.heap.size e i (.int .u8 0) 1 ht hi hz0 hz1 kl kc n n n hl hc rfl rfl (by rw [hz2]; omega) (by unfold maxLen; omega) (Nat.le_refl _) fun w' ho hg => h w' (OB.mk' ?_) (below_of_grown hg)
  have e1 : (madeCells (Value.int .u8 0).cells (n * 1)).toList = cellsOf (List.replicate n 0) := by
    rw [Nat.mul_one]
    have := toList_madeCells_one (.int .u8 0) n
    rw [show (Value.int .u8 0).cells = #[.int .u8 0] from rfl, this]
    simp [cellsOf]
  rw [e1] at ho
  rw [List.length_replicate]
  exact ho

theorem wp_make_at {P : Program} {w : World} {ops : Array Oper} {rest : List Oper} {o : Oper} {a : Act} {Q : Exit → Act → World → Prop} (hgd : o.guard = none) (l c : Operand) (t e : TypeId) (hop : o.op = Op.makeSlice t l c)
    (ht : P.underlying t = some (.slice e)) (hinfo : (P.info? e).map (fun i => (i.zero, i.size, i.bytes)) = some (some (.int .u8 0), 1, 1)) (kl kc : IntKind) (L C : Int) (n : Nat) (hl : a.eval l = .int kl L) (hc : a.eval c = .int kc C) (hL : L = (n : Int)) (hC : C = (n : Int)) (hn : n ≤ 140737488355328)
    (h : ∀ w', OB w' w.heap.size e (.slice (some ⟨w.heap.size, 0, none⟩) n n) (List.replicate n 0) → Below w.heap.size w w' → wpList P ops Q rest (a.put o.dst (.slice (some ⟨w.heap.size, 0, none⟩) n n)) w') : wpList P ops Q (o :: rest) a w := by
  subst hL
  subst hC
  exact wp_make hgd l c t e hop ht hinfo kl kc n hl hc hn h

/-! ### block: a sector of a number -/
def blkAt (n : Int) (i : Nat) : UInt8 := UInt8.ofNat (97 + (wrap64 (wrap64 (n * 7) + i) % 26).toNat)
def blk (size : Nat) (n : Int) : List UInt8 := (List.range size).map (blkAt n)
theorem blk_length (size : Nat) (n : Int) : (blk size n).length = size := by simp [blk]
end Go.Proofs.Ytdldclakkplliaa
