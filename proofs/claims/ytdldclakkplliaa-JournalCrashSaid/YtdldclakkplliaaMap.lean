/- A map from numbers to sectors as it lies in memory: read, written, copied. Conditions: none. -/
import Derived.Test.YtdldclakkplliaaBlock
import Derived.Maps.Own
import Derived.Maps.OwnSet
import Derived.Maps.OwnOps
import Derived.Maps.Views
namespace Go.Proofs.Ytdldclakkplliaa
set_option linter.unusedVariables false
set_option linter.unusedSimpArgs false
open Go.RowKit
open Go.Maps (Keyed)

/-- A write: where, and what. -/
structure Wr where
  at_ : Int
  b : List UInt8
  A : Option Addr
  c : Nat
def secV : Option Wr → Value
  | none => .slice none 0 0
  | some s => .slice s.A s.b.length s.c
def RR (v : Value) : Option (DataW Value × List MemPlace) := some (.held v, [])
/-- The map at block mb: what it holds for each number; at most m entries. -/
def MapAt (w : World) (mb m : Nat) (f : Int → Option Wr) : Prop := ∃ D, w.ownsMap (H := Value) Try.prog 3 RR mb m D ∧ ∀ k, (Lit.int .i64 k).wf = true → D.atKey (.int .i64 k) (.held (.slice none 0 0)) = .held (secV (f k))
theorem keyed3 : Keyed Try.prog 3 := Maps.int_keyed Try.underlying3
theorem zero22 (w : World) : (zeroValue 22).run Try.prog w = .ok (.slice none 0 0) w := by
  have hi : (Try.prog.info? 22).map (fun i => i.zero) = some (some (.slice none 0 0)) := by kernel_rfl
  obtain ⟨i, h1, h2⟩ := Option.map_eq_some_iff.1 hi
  simp [zeroValue, typeInfo, h1, h2]
theorem MapAt.lt {w : World} {mb m : Nat} {f : Int → Option Wr} (h : MapAt w mb m f) : mb < w.heap.size := by
  obtain ⟨D, h1, -⟩ := h
  exact h1.lt
theorem MapAt.keep {w w' : World} {mb m : Nat} {f : Int → Option Wr} (h : MapAt w mb m f) (hk : w'.heap[mb]? = w.heap[mb]?) : MapAt w' mb m f := by
  obtain ⟨D, ⟨es, clock, hb, rest⟩, h2⟩ := h
  exact ⟨D, ⟨es, clock, hk.trans hb, rest⟩, h2⟩
theorem MapAt.mono {w : World} {mb m m' : Nat} {f : Int → Option Wr} (h : MapAt w mb m f) (hm : m ≤ m') : MapAt w mb m' f := by
  obtain ⟨D, h1, h2⟩ := h
  exact ⟨D, h1.mono hm, h2⟩
theorem MapAt.made (w : World) : MapAt (w.alloc (.map #[] 0)) w.heap.size 0 (fun _ => none) :=
  ⟨_, World.ownsMap_made w Try.prog 3 RR, fun k _ => rfl⟩
theorem i64_lit {k : Int} (h : -9223372036854775808 ≤ k ∧ k ≤ 9223372036854775807) : (Lit.int .i64 k).wf = true := by
  simp [Lit.wf, IntKind.min, IntKind.max, IntKind.bits, IntKind.signed]
  omega
theorem MapAt.lookup {w : World} {mb m : Nat} {f : Int → Option Wr} (h : MapAt w mb m f) {k : Int} (hk : -9223372036854775808 ≤ k ∧ k ≤ 9223372036854775807) :
    (Instr.lookup 76 (.map (some mb)) (.int .i64 k) false).run Try.prog w = .ok (secV (f k)) w := by
  obtain ⟨D, h1, h2⟩ := h
  obtain ⟨v, ps, hr, hv⟩ := h1.lookup keyed3 Try.underlying76 (zero22 w) (zd := .held (.slice none 0 0)) (zp := []) rfl (Maps.keyOf_int_mk Try.underlying3 (i64_lit hk))
  rw [h2 k (i64_lit hk)] at hv
  unfold RR at hv
  simp only [Option.some.injEq, Prod.mk.injEq, DataW.held.injEq] at hv
  rw [hr, hv.1]
theorem wp_lookup {w : World} {ops : Array Oper} {rest : List Oper} {o : Oper} {a : Act} {Q : Exit → Act → World → Prop} (hgd : o.guard = none) (m x : Operand) (hop : o.op = Op.lookup 76 m x false) (mb n : Nat) (f : Int → Option Wr) (hm : a.eval m = .map (some mb)) (h : MapAt w mb n f)
    (k : Int) (hx : a.eval x = .int .i64 k) (hk : -9223372036854775808 ≤ k ∧ k ≤ 9223372036854775807) (v : Value) (hv : secV (f k) = v) (hK : wpList Try.prog ops Q rest (a.put o.dst v) w) : wpList Try.prog ops Q (o :: rest) a w := by
  subst hv
  refine wpList_plain hgd fun K' hK' => ?_
  have hrun := h.lookup hk
  unfold Oper.wp
  simp [execOp, hop, hm, hx, hrun, Result.andThen]
  exact hK' _ _ hK
def upd (f : Int → Option Wr) (k : Int) (s : Wr) : Int → Option Wr := fun i => if i = k then some s else f i
theorem MapAt.update {w : World} {mb m : Nat} {f : Int → Option Wr} (h : MapAt w mb m f) {k : Int} (hk : -9223372036854775808 ≤ k ∧ k ≤ 9223372036854775807) (hm : m ≤ 1000000000) (s : Wr) :
    ∃ w', (Instr.mapUpdate 76 (.map (some mb)) (.int .i64 k) (.slice s.A s.b.length s.c)).run Try.prog w = .ok () w' ∧ MapAt w' mb (m + 1) (upd f k s) ∧ w.grownBy w' (some mb) := by
  obtain ⟨D, h1, h2⟩ := h
  obtain ⟨w', hr, ho, hg⟩ := h1.update keyed3 Try.underlying76 (by unfold maxLen; omega) (d := .held (.slice s.A s.b.length s.c)) (ps := []) (Maps.keyOf_int_mk Try.underlying3 (i64_lit hk)) (val := .slice s.A s.b.length s.c) rfl
  refine ⟨w', hr, ⟨_, ho, fun j hj => ?_⟩, hg⟩
  by_cases hjk : j = k
  · subst hjk
    rw [Maps.atKey_put_same h1.isMap (keyed3.key (Maps.keyOf_int_mk Try.underlying3 hj))]
    simp [upd, secV]
  · rw [Maps.atKey_put_other (by intro e; cases e; exact hjk rfl), h2 j hj]
    simp [upd, hjk]
end Go.Proofs.Ytdldclakkplliaa
