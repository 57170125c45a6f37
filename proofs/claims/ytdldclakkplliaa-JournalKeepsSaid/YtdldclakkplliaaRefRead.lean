/- The walk of the document's Read. Conditions: none. -/
import Derived.Test.YtdldclakkplliaaRefD
namespace Go.Proofs.Ytdldclakkplliaa
set_option linter.unusedVariables false
set_option linter.unusedSimpArgs false
open Go.RowKit

def rreadS (r : RK) (k : Nat) : Option Wr := (lastW r.cache (k : Int)).or (r.safe k)
def rreadB (r : RK) (k : Nat) : List UInt8 := secB (rreadS r k)
theorem lastW_add (ws : List Wr) (s : Wr) (i : Int) : lastW (ws ++ [s]) i = if s.at_ = i then some s else lastW ws i := by
  unfold lastW
  rw [List.reverse_append, List.reverse_singleton, List.singleton_append, List.find?_cons]
  by_cases h : s.at_ = i
  · rw [if_pos h]; simp [h]
  · rw [if_neg h]
    have : (s.at_ == i) = false := by simp [h]
    rw [this]
theorem lastW_take (ws : List Wr) (j : Nat) (s : Wr) (i : Int) (h : ws[j]? = some s) : lastW (ws.take (j + 1)) i = if s.at_ = i then some s else lastW (ws.take j) i := by
  rw [List.take_add_one, h]
  exact lastW_add _ _ _
theorem lastW_mem {ws : List Wr} {i : Int} {s : Wr} (h : lastW ws i = some s) : s ∈ ws := by
  have := List.mem_of_find?_eq_some h
  simpa using this

set_option maxRecDepth 100000 in
set_option maxHeartbeats 4000000 in
theorem rread_walk (id gm : Nat) (vs vc : Value) (r : RK) (k : Nat) (w : World) (col : Nat → Nat) (h : RefV w col id gm vs vc r) (hk : k < r.n) (hcl : r.cache.length ≤ 1000000) :
    Calls Try.prog 65 #[.pointer (some ⟨gm, 0, none⟩), .int .i64 (k : Int)] w fun e w' => ∃ A c, e = .returned (.tuple #[.slice A 64 c, .int .i64 0]) ∧ SV A 64 c ∧ RB w' A (rreadB r k) ∧ Below w.heap.size w w' := by
  obtain ⟨gs, cs, rfl, hcs, -, hs, -⟩ := own_FS h.so h.dom.1
  obtain ⟨AC, cc, rfl, hfw⟩ := own_FW h.co
  have c0 : w.cell? ⟨gm, 0, none⟩ = some (.slice (some ⟨gs, 0, none⟩) r.n cs) := by rw [cell_of_row _ _ 0 _ _ _ h.obj]; rfl
  have c1 : w.cell? ⟨gm, 1, none⟩ = some (.slice AC r.cache.length cc) := by rw [cell_of_row _ _ 1 _ _ _ h.obj]; rfl
  have c2 := hs k hk
  obtain ⟨m, hm⟩ : ∃ m, m = r.cache.length := ⟨_, rfl⟩
  have hdom := h.dom
  have HSEC : Hid (∀ s, rreadS r k = some s → Sec w col s) := Lib.hid (fun s hs => by
    unfold rreadS at hs
    cases hl : lastW r.cache (k : Int) with
    | none => rw [hl, Option.none_or] at hs; exact h.sd k s hs
    | some t => rw [hl, Option.some_or] at hs; cases hs; exact (h.cd _ (lastW_mem hl)).1)
  have HFW := Lib.hid hfw
  obtain ⟨n, hn⟩ : ∃ n, n = r.n := ⟨_, rfl⟩
  rw [← hn] at c0 hk hdom
  rw [← hm] at c1 hcl
  have HM := Lib.hid hm
  obtain ⟨s0, hs0⟩ : ∃ s, s = r.safe k := ⟨_, rfl⟩
  rw [← hs0] at c2
  have HS0 := Lib.hid hs0
  clear h hs hfw hm hcs hn hs0
  go_enter Try.func65, Try.ntmps65
  go_wp2
  go_loopw [6, 7] (fun u6 u7 w' => ∃ j : Nat, j ≤ m ∧ u7 = .int .i64 j ∧ w' = w ∧ u6 = sval ((lastW (r.cache.take j) (k : Int)).or s0)) (fun _ u7 _ => m - (intOf u7).toNat)
  case atStart => exact ⟨0, by omega, rfl, rfl, rfl⟩
  case round =>
    obtain ⟨j, hj, rfl, rfl, rfl⟩ := hrel
    by_cases hlt : j < m
    · obtain ⟨s, hs⟩ : ∃ s, r.cache[j]? = some s := ⟨_, List.getElem?_eq_getElem (by rw [← HM.out]; exact hlt)⟩
      obtain ⟨gc, rfl, x0, x1⟩ := HFW.out.at_ j s hs
      have HL := Lib.hid (lastW_take r.cache j s (k : Int) hs)
      clear hs
      by_cases he : s.at_ = (k : Int)
      · have HE := Lib.hid he
        rw [he] at x0
        clear he
        go_wp2
        go_roundw
        case rel => exact ⟨j + 1, by omega, by go_num, trivial, by rw [HL.out, if_pos HE.out]; rfl⟩
        case measure => simp [intOf]; omega
      · have heb : (s.at_ == (k : Int)) = false := by simp [he]
        have HE := Lib.hid he
        clear he
        go_wp2
        go_roundw
        case rel => exact ⟨j + 1, by omega, by go_num, trivial, by rw [HL.out, if_neg HE.out]⟩
        case measure => simp [intOf]; omega
    · obtain rfl : j = m := by omega
      have hte : r.cache.take j = r.cache := by rw [HM.out]; exact List.take_length
      obtain ⟨o, ho⟩ : ∃ o, o = (lastW (r.cache.take j) (k : Int)).or s0 := ⟨_, rfl⟩
      have HO : Hid (rreadS r k = o) := Lib.hid (by unfold rreadS; rw [ho, hte, HS0.out])
      rw [← ho]
      clear hte ho
      cases o with
      | none =>
        rw [show sval none = .slice none 0 0 from rfl]
        have hnil : ∀ w : World, (binOp .eql 22 (.slice none 0 0) (.slice none 0 0)).run Try.prog w = .ok (.bool true) w := fun _ => rfl
        go_wp2_with (first | (at_make; go_loud (refine wp_make rfl _ _ 22 5 rfl Try.underlying22 info5 _ _ 64 rfl rfl (by omega) ?_); intro w1 ho hb; have HO1 := Lib.hid ho; have HB := Lib.hid hb; clear ho hb) | fail)
        go_ret2
        obtain ⟨A1, k1, e1, sv1, rb1⟩ := HO1.out.reads
        rw [List.length_replicate] at e1 sv1
        cases e1
        refine ⟨_, _, rfl, sv1, ?_, HB.out⟩
        unfold rreadB
        rw [HO.out]
        exact rb1
      | some s =>
        have hsec := HSEC.out s HO.out
        obtain ⟨ad, hA⟩ : ∃ ad, s.A = some ad := by
          cases e : s.A with
          | none => have h1 := hsec.1.2 e; have h2 := hsec.1.1; have h3 := hsec.2.2; omega
          | some ad => exact ⟨ad, rfl⟩
        have HSS := Lib.hid hsec
        have hsl := hsec.2.2
        rw [show sval (some s) = .slice (some ad) 64 s.c by show Value.slice s.A s.b.length s.c = _; rw [hA, hsl]]
        have HA := Lib.hid hA
        have hnil : ∀ w : World, (binOp .eql 22 (.slice (some ad) 64 s.c) (.slice none 0 0)).run Try.prog w = .ok (.bool false) w := fun _ => rfl
        clear hsec hA hsl
        go_wp2
        go_ret2
        refine ⟨_, _, rfl, by rw [← HSS.out.2.2, ← HA.out]; exact HSS.out.1, ?_, Below.refl _ _⟩
        unfold rreadB
        rw [HO.out, ← HA.out]
        exact HSS.out.2.1.read
theorem rread_bad (id gm : Nat) (vs vc : Value) (r : RK) (i : Int) (w : World) (col : Nat → Nat) (h : RefV w col id gm vs vc r) (hi : i < 0 ∨ r.n ≤ i) :
    Calls Try.prog 65 #[.pointer (some ⟨gm, 0, none⟩), .int .i64 i] w fun e w' => e = .returned (.tuple #[.slice none 0 0, .int .i64 1]) ∧ w = w' := by
  obtain ⟨gs, cs, rfl, hcs, -, hs, -⟩ := own_FS h.so h.dom.1
  have c0 : w.cell? ⟨gm, 0, none⟩ = some (.slice (some ⟨gs, 0, none⟩) r.n cs) := by rw [cell_of_row _ _ 0 _ _ _ h.obj]; rfl
  clear h hs
  by_cases h1 : i < 0
  · clear hi
    go_enter Try.func65, Try.ntmps65
    go_wp2
    go_ret2
    exact ⟨rfl, rfl⟩
  · have h2 : (r.n : Int) ≤ i := by omega
    clear hi
    go_enter Try.func65, Try.ntmps65
    go_wp2
    go_ret2
    exact ⟨rfl, rfl⟩
end Go.Proofs.Ytdldclakkplliaa
