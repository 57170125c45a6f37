/- Rows of bytes that the law itself changes; Sum and Bytes of the law. Conditions: none. -/
import Derived.Test.YtdldclakkplliaaJAwake
namespace Go.Proofs.Ytdldclakkplliaa
set_option linter.unusedVariables false
set_option linter.unusedSimpArgs false
open Go.RowKit

/-- A row of bytes in a block of its own, of colour 3. -/
def Own3 (w : World) (col : Nat → Nat) (A : Option Addr) (n cap : Nat) : Prop :=
  ∃ bs : List UInt8, bs.length = n ∧ OB w 0 5 (.slice A n cap) bs ∧ ∀ k, (Value.slice A n cap).ownBlock = some k → col k = 3
theorem Own3.path {J : Nat → Prop} {w w' : World} {col col' : Nat → Nat} {A : Option Addr} {n cap : Nat} (h : Own3 w col A n cap) (p : Path J w col w' col') (hJ : ∀ i, J i → i ≠ 3) : Own3 w' col' A n cap := by
  obtain ⟨bs, hl, ho, hc⟩ := h
  have hk : ∀ k, (Value.slice A n cap).ownBlock = some k → w'.heap[k]? = w.heap[k]? ∧ col' k = col k := fun k e => by
    have := p.kept (k := k) (ho.row.lt k e).2 (fun i hi => by rw [hc k e]; exact hJ i hi)
    exact ⟨this.1, this.2.1⟩
  exact ⟨bs, hl, OB.mk' (own_keep ho.row fun k e => (hk k e).1), fun k e => (hk k e).2.trans (hc k e)⟩
theorem Own3.at_ {w : World} {col : Nat → Nat} {A : Option Addr} {n cap : Nat} (h : Own3 w col A n cap) (k : Nat) (hk : k < n) :
    ∃ (g xb : Nat), A = some ⟨g, 0, none⟩ ∧ w.cell? ⟨g, k, none⟩ = some (.int .u8 (xb : Int)) ∧ w.frozen? ⟨g, k, none⟩ = false ∧ col g = 3 ∧ Own3 (w.setCell ⟨g, k, none⟩ (.int .u8 (((xb : Int) + 1) % 256))) col A n cap := by
  obtain ⟨bs, rfl, ho, hc⟩ := h
  obtain ⟨A0, c0, e0, -, hrb⟩ := ho.reads
  cases e0
  obtain ⟨ad, rfl, hcell⟩ := hrb.at_ k hk
  obtain ⟨g, cur, rfl, hh⟩ := ho.hot (by omega) ad rfl
  rw [add0] at hcell
  have hset := OB.set ho k (UInt8.ofNat ((bs.getD k 0).toNat + 1))
  have hv : (((UInt8.ofNat ((bs.getD k 0).toNat + 1)).toNat : Nat) : Int) = (((bs.getD k 0).toNat : Int) + 1) % 256 := by
    rw [UInt8.toNat_ofNat']
    omega
  rw [hv] at hset
  refine ⟨g, (bs.getD k 0).toNat, rfl, hcell, frozen_of_row w g k _ _ hh, hc g rfl, bs.set k (UInt8.ofNat ((bs.getD k 0).toNat + 1)), List.length_set .., hset.1, hc⟩
theorem own3_new {w w' : World} {col new : Nat → Nat} {A : Option Addr} {n cap base : Nat} {bs : List UInt8} (ho : OB w' base 5 (.slice A n cap) bs) (hl : bs.length = n) (hb : w.heap.size ≤ base) (hn : ∀ k, (Value.slice A n cap).ownBlock = some k → new k = 3) : Own3 w' (paint w col new) A n cap :=
  ⟨bs, hl, OB.mk' (own_mono ho.row (Nat.zero_le _)), fun k e => (paint_new (Nat.le_trans hb (ho.row.lt k e).1)).trans (hn k e)⟩
theorem set3 {w : World} {col : Nat → Nat} {g k id : Nat} (hc : col g = id) (v : Value) : Step id w col (w.setCell ⟨g, k, none⟩ v) col := ⟨(Keeps.refl _ _).setCell (.inl hc) v, fun _ _ => rfl⟩
/-- A row of bytes in a block of colour 4; others may lie in the same one. -/
def El (w : World) (col : Nat → Nat) (s : Wr) : Prop :=
  0 < s.b.length → ∃ (g : Nat) (cur : Array Value), s.A = some ⟨g, 0, none⟩ ∧ w.heap[g]? = some (.cells cur 5 (0, 0)) ∧ col g = 4 ∧ ∀ j, j < s.b.length → ∃ x : Nat, cur[j]? = some (.int .u8 (x : Int))
theorem El.path {J : Nat → Prop} {w w' : World} {col col' : Nat → Nat} {s : Wr} (h : El w col s) (p : Path J w col w' col') (hJ : ∀ i, J i → i ≠ 4) : El w' col' s := fun hp => by
  obtain ⟨g, cur, e, hg, hc, hx⟩ := h hp
  have := p.kept (Array.getElem?_eq_some_iff.1 hg).1 (fun i hi => by rw [hc]; exact hJ i hi)
  exact ⟨g, cur, e, this.1.trans hg, this.2.1.trans hc, hx⟩
theorem El.at_ {w : World} {col : Nat → Nat} {s : Wr} (h : El w col s) (k : Nat) (hk : k < s.b.length) :
    ∃ (g xb : Nat), s.A = some ⟨g, 0, none⟩ ∧ w.cell? ⟨g, k, none⟩ = some (.int .u8 (xb : Int)) ∧ w.frozen? ⟨g, k, none⟩ = false ∧ col g = 4 := by
  obtain ⟨g, cur, e, hg, hc, hx⟩ := h (by omega)
  obtain ⟨x, hx⟩ := hx k hk
  exact ⟨g, x, e, by rw [cell_of_row _ _ k _ _ _ hg]; exact hx, frozen_of_row w g k _ _ hg, hc⟩
theorem El.set {w : World} {col : Nat → Nat} {s : Wr} (h : El w col s) (g k : Nat) (x : Int) (hx0 : 0 ≤ x) : El (w.setCell ⟨g, k, none⟩ (.int .u8 x)) col s := fun hp => by
  obtain ⟨g', cur, e, hg, hc, hx⟩ := h hp
  obtain ⟨y, rfl⟩ := Int.eq_ofNat_of_zero_le hx0
  by_cases hgg : g' = g
  · subst hgg
    refine ⟨g', cur.setIfInBounds k (.int .u8 (y : Int)), e, row_set (j := k) (.int .u8 (y : Int)) hg, hc, fun j hj => ?_⟩
    obtain ⟨x, hx⟩ := hx j hj
    by_cases hjk : k = j
    · subst hjk
      exact ⟨y, by rw [Array.getElem?_setIfInBounds_self_of_lt (Array.getElem?_eq_some_iff.1 hx).1]⟩
    · exact ⟨x, by rw [Array.getElem?_setIfInBounds_ne hjk]; exact hx⟩
  · exact ⟨g', cur, e, (Below.heap_setCell _ _ _ _ (fun e2 => hgg (by rw [e2]))).trans hg, hc, hx⟩
theorem el_new {w w' : World} {col new : Nat → Nat} {s : Wr} (hr : RB w' s.A s.b) (ht : Hot w' s.A s.b) (hb : 0 < s.b.length → ∀ ad, s.A = some ad → w.heap.size ≤ ad.block ∧ new ad.block = 4) : El w' (paint w col new) s := fun hp => by
  obtain ⟨ad, e, hc0⟩ := hr.at_ 0 hp
  obtain ⟨g, cur, rfl, hg⟩ := ht hp ad e
  have := hb hp _ e
  refine ⟨g, cur, e, hg, (paint_new this.1).trans this.2, fun j hj => ?_⟩
  obtain ⟨ad', e', hc⟩ := hr.at_ j hj
  rw [e] at e'
  cases e'
  rw [add0, cell_of_row _ _ j _ _ _ hg] at hc
  exact ⟨_, hc⟩

/-! ### Sum and Bytes -/
def sat : Int → List Int → Int
  | n, [] => n
  | n, m :: ms => if n > 1099511627776 ∨ m > 1099511627776 - n then 1099511627776 else sat (n + m) ms
theorem sat_drop (n : Int) (xs : List Int) (k : Nat) (h : k < xs.length) : sat n (xs.drop k) = if n > 1099511627776 ∨ xs.getD k 0 > 1099511627776 - n then 1099511627776 else sat (n + xs.getD k 0) (xs.drop (k + 1)) := by
  rw [List.drop_eq_getElem_cons h, List.getD_eq_getElem?_getD, List.getElem?_eq_getElem h]
  rfl
theorem asum_any (n : Int) (h0 : 0 ≤ n) (h1 : n ≤ 1099511627776) (A : Option Addr) (c : Nat) (xs : List Int) (hx : ∀ x ∈ xs, 0 ≤ x ∧ x ≤ 9223372036854775807) (w : World) (hr : RI w A xs) :
    Calls Try.prog 40 #[.int .i64 n, .slice A xs.length c] w fun e w' => e = .returned (.int .i64 (sat n xs)) ∧ w = w' := by
  have hl := hr.len
  have HR := Lib.hid hr
  clear hr
  have HX := Lib.hid hx
  clear hx
  go_enter Try.func40, Try.ntmps40
  go_wp2
  go_loop [0, 5] (fun r i => ∃ (k : Nat) (q : Int), k ≤ xs.length ∧ 0 ≤ q ∧ q ≤ 1099511627776 ∧ i = .int .i64 k ∧ r = .int .i64 q ∧ Hid (sat q (xs.drop k) = sat n xs)) (fun _ i => xs.length - (intOf i).toNat)
  case atStart => exact ⟨0, n, Nat.zero_le _, h0, h1, rfl, rfl, Lib.hid rfl⟩
  case round =>
    obtain ⟨k, q, hk, hq0, hq1, rfl, rfl, HQ⟩ := hrel
    by_cases hlt : k < xs.length
    · obtain ⟨ad, rfl, hcell⟩ := HR.out.at_ k hlt
      have hx := HX.out (xs.getD k 0) (by rw [List.getD_eq_getElem?_getD, List.getElem?_eq_getElem hlt]; simp)
      have hsd := Lib.hid (sat_drop q xs k hlt)
      obtain ⟨x, hxe⟩ : ∃ x, x = xs.getD k 0 := ⟨_, rfl⟩
      rw [← hxe] at hcell hx hsd
      have HE := Lib.hid hxe
      clear hxe
      obtain ⟨hx0, hx1⟩ := hx
      by_cases hbig : x > 1099511627776 - q
      · go_wp2
        go_ret
        exact ⟨ret_int (by rw [← HQ.out, hsd.out, if_pos (Or.inr hbig)]), rfl⟩
      · have hb2 : x + q ≤ 1099511627776 := by omega
        go_wp2
        go_round
        case rel => exact ⟨k + 1, q + x, by omega, by omega, by omega, by go_num, rfl, Lib.hid (by rw [← HQ.out, hsd.out, if_neg (by omega)])⟩
        case measure => simp [intOf]; omega
    · go_wp2
      go_ret
      obtain rfl : k = xs.length := by omega
      exact ⟨ret_int (by rw [← HQ.out, List.drop_length]; rfl), rfl⟩
def tot (ls : List (List UInt8)) : Nat := (ls.map fun b => b.length + 1).sum
theorem tot_snoc (ls : List (List UInt8)) (b : List UInt8) : tot (ls ++ [b]) = tot ls + b.length + 1 := by simp [tot]; omega
theorem sat_two (q l : Int) (h0 : 0 ≤ q) (h1 : q ≤ 2000) (hl : 0 ≤ l) : 0 ≤ sat q [l, 1] ∧ sat q [l, 1] ≤ 1099511627776 ∧ (sat q [l, 1] ≤ 2000 → sat q [l, 1] = q + l + 1) := by
  simp only [sat]
  split
  · omega
  · split <;> omega
theorem weigh_any (A : Option Addr) (c : Nat) (ls : List (List UInt8)) (w : World) (hr : RL w A ls) :
    Calls Try.prog 12 #[.slice A ls.length c, .int .i64 2000] w fun e w' => ∃ v : Int, e = .returned (.int .i64 v) ∧ (v ≤ 2000 → (tot ls : Int) = v) ∧ Below w.heap.size w w' := by
  have hl := hr.len
  have HR := Lib.hid hr
  obtain ⟨n, hn⟩ : ∃ n, n = ls.length := ⟨_, rfl⟩
  have HN := Lib.hid hn
  rw [← hn] at hl ⊢
  clear hr hn
  go_enter Try.func12, Try.ntmps12
  go_wp2
  go_loopw [5, 6] (fun u5 u6 w' => ∃ (k : Nat) (q : Int), k ≤ n ∧ u6 = .int .i64 k ∧ u5 = .int .i64 q ∧ 0 ≤ q ∧ q ≤ 1099511627776 ∧ Hid (q ≤ 2000 → (tot (ls.take k) : Int) = q) ∧ Hid (Below w.heap.size w w')) (fun _ u6 _ => n - (intOf u6).toNat)
  case atStart => exact ⟨0, 0, by omega, rfl, rfl, by omega, by omega, Lib.hid (fun _ => rfl), Lib.hid (Below.refl _ _)⟩
  case round =>
    obtain ⟨k, q, hk, rfl, rfl, hq0, hq1, HQ, HB⟩ := hrel
    by_cases hlt : k < n
    · by_cases hq : q ≤ 2000
      · obtain ⟨ad, Aj, cj, b, rfl, hb, c0, -, rb0⟩ := (HR.out.below HB.out).at_ k (by rw [← HN.out]; exact hlt)
        obtain ⟨bl, hbl⟩ : ∃ l, l = b.length := ⟨_, rfl⟩
        rw [← hbl] at c0
        have hbm : bl ≤ 9223372036854775807 := by rw [hbl]; exact rb0.len
        have HT : Hid (tot (ls.take (k + 1)) = tot (ls.take k) + bl + 1) := Lib.hid (by
          rw [List.take_add_one, List.getElem?_eq_getElem (by rw [← HN.out]; exact hlt), hbl, hb, List.getD_eq_getElem?_getD, List.getElem?_eq_getElem (by rw [← HN.out]; exact hlt)]
          exact tot_snoc _ _)
        have HS := Lib.hid (sat_two q bl hq0 hq (by omega))
        have hri := RI.two wr (bl : Int) 1 3 (n := wr.heap.size) rfl
        have hba := bel_alloc (Below.refl wr.heap.size wr) (.cells #[.int .i64 (bl : Int), .int .i64 1] 3)
        have HSUM := Lib.hid (asum_any q hq0 hq1 (some ⟨wr.heap.size, 0, none⟩) 2 [(bl : Int), 1] (fun x hx => by simp at hx; omega) _ hri)
        have HB2 := Lib.hid (bel_then HB.out hba)
        clear hb rb0 hbl hri hba
        go_wp2_with fail
        refine HSUM.out.mono ?_
        rintro e w' ⟨rfl, rfl⟩
        obtain ⟨hs0, hs1, hs2⟩ := HS.out
        have HS2 := Lib.hid hs2
        generalize sat q [(bl : Int), 1] = q2 at *
        clear hs2 HSUM
        go_wp2
        go_roundw
        case rel => exact ⟨k + 1, q2, by omega, by go_num, rfl, by omega, by omega, Lib.hid (fun h => by have e1 := HQ.out (by omega); have e2 := HS2.out h; have e3 := HT.out; omega), HB2⟩
        case measure => simp [intOf]; omega
      · have hf : decide (q ≤ 2000) = false := by simp; omega
        go_wp2
        go_ret
        exact ⟨q, rfl, fun h => by omega, HB.out⟩
    · obtain rfl : k = n := by omega
      have HT : Hid (ls.take k = ls) := Lib.hid (by rw [HN.out, List.take_length])
      go_wp2
      go_ret
      exact ⟨q, rfl, fun h => by have := HQ.out h; rw [HT.out] at this; exact this, HB.out⟩
end Go.Proofs.Ytdldclakkplliaa
