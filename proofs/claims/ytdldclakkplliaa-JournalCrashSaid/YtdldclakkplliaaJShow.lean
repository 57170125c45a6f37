/- The walks of Base, Records, Lists, data and shows. Conditions: none. -/
import Derived.Test.YtdldclakkplliaaJInv
import Derived.BigQuiet
namespace Go.Proofs.Ytdldclakkplliaa
set_option linter.unusedVariables false
set_option linter.unusedSimpArgs false
open Go.RowKit

theorem base_any (gj gd idj : Nat) (vr : Value) (j : JK) (w : World) (col : Nat → Nat) (h : JV w col idj gj gd vr j) (hb : j.base.b.length ≤ 140737488355328) :
    Calls Try.prog 18 #[.pointer (some ⟨gj, 0, none⟩)] w (CloneP j.base.b w) := by
  have c3 : w.cell? ⟨gj, 3, none⟩ = some (.slice j.base.A j.base.b.length j.base.c) := by rw [cell_of_row _ _ 3 _ _ _ h.obj]; rfl
  obtain ⟨bl, hbl⟩ : ∃ l, l = j.base.b.length := ⟨_, rfl⟩
  rw [← hbl] at c3
  have HC := Lib.hid (clone_at j.base.A j.base.c bl j.base.b w hbl h.sb.2.read h.sb.1 hb)
  have HN := Lib.hid (none_any gj gd vr j w h.obj)
  clear h hbl
  go_enter Try.func18, Try.ntmps18
  go_wp2_with fail
  refine HN.out.mono ?_
  rintro e w' ⟨rfl, rfl⟩
  go_wp2_with fail
  refine HC.out.mono ?_
  rintro e w1 ⟨v, rfl, ob, hb1⟩
  have OO := Lib.hid ob
  have HB := Lib.hid hb1
  obtain ⟨A, c, e1, -, -⟩ := ob.reads
  obtain ⟨l, hl⟩ : ∃ l, l = j.base.b.length := ⟨_, rfl⟩
  rw [← hl] at e1
  subst e1
  clear hl ob hb1
  go_wp2
  go_ret
  exact ⟨_, rfl, OO.out, HB.out⟩
def Hot (w : World) (A : Option Addr) (bs : List UInt8) : Prop := 0 < bs.length → ∀ ad, A = some ad → ∃ g cur, ad = ⟨g, 0, none⟩ ∧ w.heap[g]? = some (.cells cur 5 (0, 0))
theorem Hot.keep {w w' : World} {A : Option Addr} {bs : List UInt8} (h : Hot w A bs) (hk : 0 < bs.length → ∀ ad, A = some ad → w'.heap[ad.block]? = w.heap[ad.block]?) : Hot w' A bs := by
  intro hp ad e
  obtain ⟨g, cur, e2, hg⟩ := h hp ad e
  have := hk hp ad e
  subst e2
  exact ⟨g, cur, rfl, this.trans hg⟩
theorem Hot.step {w w' : World} {col col' : Nat → Nat} {c id : Nat} {A : Option Addr} {bs : List UInt8} (h : Hot w A bs) (r : RC w col c A bs) (s : Step id w col w' col') (hne : id ≠ c) : Hot w' A bs :=
  h.keep fun hp ad e => s.keeps.block _ (r.read.lt hp ad e) (fun e2 => hne (e2.symm.trans (r.at_ hp ad e)))
theorem Hot.below {w w' : World} {A : Option Addr} {bs : List UInt8} (h : Hot w A bs) (r : RB w A bs) (hb : Below w.heap.size w w') : Hot w' A bs :=
  h.keep fun hp ad e => hb.block _ (r.lt hp ad e)
theorem OB.hot {w : World} {base : Nat} {A : Option Addr} {c n : Nat} {bs : List UInt8} (h : OB w base 5 (.slice A n c) bs) : Hot w A bs := by
  intro hp ad e
  subst e
  rcases h.row.2 with ⟨h1, h0⟩ | ⟨g, cap, cur, h1, hb, hh, rest⟩
  · cases h1
  · cases h1
    exact ⟨g, cur, rfl, hh⟩

/-- Rows of bytes that were made anew. -/
structure NewL (w w' : World) (v : Value) (ls : List (List UInt8)) (rs : List Wr) : Prop where
  own : w'.ownsRow w.heap.size 22 1 v rs.length (rowL rs)
  eq : rs.map (·.b) = ls
  at_ : ∀ s, s ∈ rs → SV s.A s.b.length s.c ∧ RB w' s.A s.b ∧ (0 < s.b.length → ∀ ad, s.A = some ad → w.heap.size ≤ ad.block ∧ v.ownBlock ≠ some ad.block) ∧ Hot w' s.A s.b
theorem NewL.below {w w' w'' : World} {v : Value} {ls : List (List UInt8)} {rs : List Wr} (h : NewL w w' v ls rs) (hb : Below w'.heap.size w' w'') : NewL w w'' v ls rs :=
  ⟨own_keep h.own fun k hk => hb.block k (h.own.lt k hk).2, h.eq, fun s hs => ⟨(h.at_ s hs).1, (h.at_ s hs).2.1.below hb, (h.at_ s hs).2.2.1, (h.at_ s hs).2.2.2.below (h.at_ s hs).2.1 hb⟩⟩
theorem NewL.reads {w w' : World} {v : Value} {ls : List (List UInt8)} {rs : List Wr} (h : NewL w w' v ls rs) (hl : ls.length ≤ 9223372036854775807) : ∃ A c, v = .slice A ls.length c ∧ SV A ls.length c ∧ RL w' A ls := by
  have hlen : rs.length = ls.length := by rw [← h.eq, List.length_map]
  obtain ⟨A, c, e, h1, h2, h3⟩ := own_FL h.own
  rw [hlen] at e h1
  refine ⟨A, c, e, ⟨h1, h2⟩, RL.mk' hl fun hp => ?_⟩
  obtain ⟨g, rfl, -⟩ := h3 0 rs[0] (List.getElem?_eq_getElem (by omega))
  refine ⟨_, rfl, fun j hj => ?_⟩
  have hjr : j < rs.length := by omega
  obtain ⟨g', e', hc⟩ := h3 j rs[j] (List.getElem?_eq_getElem hjr)
  cases e'
  have hg : ls.getD j [] = rs[j].b := by rw [← h.eq, List.getD_eq_getElem?_getD, List.getElem?_map, List.getElem?_eq_getElem hjr]; rfl
  have ha := h.at_ rs[j] (List.getElem_mem _)
  rw [hg, add0]
  exact ⟨_, _, hc, ha.1, ha.2.1⟩
theorem newL_add {w X Y : World} {v v1 : Value} {ls : List (List UInt8)} {rs : List Wr} {A : Option Addr} {c : Nat} {b : List UInt8} (h : NewL w X v ls rs) (ho : Y.ownsRow w.heap.size 22 1 v1 (rs.length + 1) (rowL rs ++ [.slice A b.length c])) (hg : X.grownBy Y v.ownBlock) (hv : v1.ownBlock = v.ownBlock ∨ v1.ownBlock = some X.heap.size)
    (hs : SV A b.length c) (hr : RB X A b) (ht : Hot X A b) (hne : 0 < b.length → ∀ ad, A = some ad → w.heap.size ≤ ad.block ∧ v.ownBlock ≠ some ad.block) : NewL w Y v1 (ls ++ [b]) (rs ++ [⟨0, b, A, c⟩]) := by
  have hk : ∀ (A : Option Addr) (b : List UInt8), RB X A b → (0 < b.length → ∀ ad, A = some ad → w.heap.size ≤ ad.block ∧ v.ownBlock ≠ some ad.block) → Hot X A b → RB Y A b ∧ (0 < b.length → ∀ ad, A = some ad → w.heap.size ≤ ad.block ∧ v1.ownBlock ≠ some ad.block) ∧ Hot Y A b := fun A b hr hn ht => by
    refine ⟨hr.keep fun hp ad e => hg.block _ (hr.lt hp ad e) (fun e2 => (hn hp ad e).2 e2.symm), fun hp ad e => ⟨(hn hp ad e).1, fun e2 => ?_⟩, ht.keep fun hp ad e => hg.block _ (hr.lt hp ad e) (fun e2 => (hn hp ad e).2 e2.symm)⟩
    rcases hv with h1 | h1
    · exact (hn hp ad e).2 (h1.symm.trans e2)
    · rw [h1] at e2
      have := Option.some.inj e2
      have := hr.lt hp ad e
      omega
  refine ⟨?_, by rw [List.map_append, h.eq]; rfl, fun s hs2 => ?_⟩
  · rw [List.length_append, rowL_append]; exact ho
  · rcases List.mem_append.1 hs2 with hs2 | hs2
    · have := h.at_ s hs2
      exact ⟨this.1, hk _ _ this.2.1 this.2.2.1 this.2.2.2⟩
    · rw [List.mem_singleton] at hs2
      subst hs2
      exact ⟨hs, hk _ _ hr hne ht⟩
set_option maxRecDepth 100000 in
set_option maxHeartbeats 4000000 in
theorem records_any (gj gd idj : Nat) (vr : Value) (j : JK) (w : World) (col : Nat → Nat) (h : JV w col idj gj gd vr j) (hn : j.recs.length ≤ 1000000) (hb : ∀ s ∈ j.recs, s.b.length ≤ 1000000) :
    Calls Try.prog 19 #[.pointer (some ⟨gj, 0, none⟩)] w fun e w' => ∃ v rs, e = .returned v ∧ NewL w w' v (j.recs.map (·.b)) rs ∧ Below w.heap.size w w' := by
  obtain ⟨AR, cR, rfl, -, -, hfl⟩ := own_FL h.own
  obtain ⟨rl, hrl⟩ : ∃ n, n = j.recs.length := ⟨_, rfl⟩
  have c4 : w.cell? ⟨gj, 4, none⟩ = some (.slice AR rl cR) := by rw [cell_of_row _ _ 4 _ _ _ h.obj, hrl]; rfl
  have HN := Lib.hid (none_any gj gd _ j w h.obj)
  have HFL := Lib.hid hfl
  have HSR := Lib.hid h.sr
  have HRL := Lib.hid hrl
  have HBB := Lib.hid hb
  rw [← hrl] at hn
  clear h hfl hrl hb
  go_enter Try.func19, Try.ntmps19
  go_wp2_with fail
  refine HN.out.mono ?_
  rintro e w' ⟨rfl, rfl⟩
  go_wp2
  clear c4
  go_loopw [2, 4, 12] (fun u2 u4 u12 w' => ∃ (k : Nat) (rs : List Wr), k ≤ rl ∧ u12 = .int .i64 k ∧ Hid (NewL w w' u2 ((j.recs.take k).map (·.b)) rs) ∧ Hid (rs.length = k) ∧ Hid (Below w.heap.size w w')) (fun _ _ u12 _ => rl - (intOf u12).toNat)
  case atStart => exact ⟨0, [], by omega, rfl, Lib.hid ⟨World.ownsRow_nil _ _ 22 1, by simp, fun s hs => by cases hs⟩, Lib.hid rfl, Lib.hid (Below.refl _ _)⟩
  case round =>
    obtain ⟨k, rs, hk, rfl, HL, HK, HB⟩ := hrel
    by_cases hlt : k < rl
    · obtain ⟨s, hs⟩ : ∃ s, j.recs[k]? = some s := ⟨_, List.getElem?_eq_getElem (by rw [← HRL.out]; exact hlt)⟩
      obtain ⟨gr, rfl, cs0⟩ := HFL.out k s hs
      have cs := (HB.out.cell (World.block_lt_of_cell? _ _ cs0)).trans cs0
      have hsm := List.mem_of_getElem? hs
      have hsl := HSR.out s hsm
      obtain ⟨bl, hbl⟩ : ∃ l, l = s.b.length := ⟨_, rfl⟩
      have hlv : lval s = .slice s.A bl s.c := by rw [hbl]; rfl
      rw [hlv] at cs
      have HCL := Lib.hid (clone_at s.A s.c bl s.b wr hbl (hsl.2.read.below HB.out) hsl.1 (by have := HBB.out s hsm; omega))
      have HBL := Lib.hid hbl
      have hblb : bl ≤ 1000000 := by rw [hbl]; exact HBB.out s hsm
      have HTK : Hid ((j.recs.take (k + 1)).map (·.b) = (j.recs.take k).map (·.b) ++ [s.b]) := Lib.hid (by rw [List.take_add_one, hs, List.map_append]; rfl)
      obtain ⟨Av, cv, e2, -, -, -⟩ := own_FL HL.out.own
      rw [HK.out] at e2
      subst e2
      clear hs cs0 hsm hsl hlv hbl
      go_wp2_with fail
      refine HCL.out.mono ?_
      rintro e w2 ⟨v2, rfl, ob2, hb2⟩
      obtain ⟨A2, c2, e2, sv2, rb2⟩ := ob2.reads
      have hbs := ob2.base_
      rw [← HBL.out] at e2
      subst e2
      have hL2 := HL.out.below hb2
      have HL2 := Lib.hid hL2
      have HB2 := Lib.hid (bel_then HB.out hb2)
      have HNE : Hid (0 < s.b.length → ∀ ad, A2 = some ad → w.heap.size ≤ ad.block ∧ (Value.slice Av k cv).ownBlock ≠ some ad.block) := Lib.hid (fun hp ad e => by
        have h1 := hbs ad.block (by rw [e]; rfl)
        have h2 := HB.out.size
        refine ⟨by omega, fun e2 => ?_⟩
        have := (HL.out.own.lt _ e2).2
        omega)
      have SV2 := Lib.hid sv2
      have RB2 := Lib.hid rb2
      have HT2 := Lib.hid ob2.hot
      clear ob2 hbs hb2 hL2 sv2 rb2 cs
      go_wp2_with (first | (at_builtin; go_loud (refine wp_app rfl _ _ 23 rfl w.heap.size 22 (.slice none 0 0) 1 24 Try.underlying23 info22 rfl (by decide) (.slice Av k cv) k (rowL rs) rfl (by have := HL2.out.own; rw [HK.out] at this; exact own_keep this fun i hi => Below.heap_alloc _ _ _ (this.lt i hi).2) _ 1 _ [.slice A2 bl c2] rfl rfl (fun e => by cases e) (fun _ => ⟨_, rfl, fun i u hu => cell_alloc _ _ _ _ _ (by simp) i u (by simpa using hu)⟩) (by intro u hu; simp only [List.mem_cons, List.not_mem_nil, or_false] at hu; rcases hu with rfl; rfl) (by unfold maxLen; omega) (by omega) (bel_alloc HB2.out _).size ?_); intro v3 w3 ho hg hv; have HO3 := Lib.hid ho; have HG3 := Lib.hid hg; have HV3 := Lib.hid hv; have HB3 := Lib.hid (bel_grown (bel_alloc HB2.out _) hg (fun i e => (HL2.out.own.lt i e).1)); clear ho hg hv) | fail)
      go_roundw
      case rel =>
        refine ⟨k + 1, rs ++ [⟨0, s.b, A2, c2⟩], by omega, by go_num, Lib.hid ?_, Lib.hid (by rw [List.length_append, HK.out]; rfl), HB3⟩
        rw [HTK.out]
        have hb4 := bel_alloc (Below.refl w2.heap.size w2) (.cells #[.slice A2 bl c2] 22)
        refine newL_add (X := w2.alloc (.cells #[.slice A2 bl c2] 22)) (HL2.out.below hb4) ?_ HG3.out HV3.out SV2.out (RB2.out.below hb4) (HT2.out.below RB2.out hb4) HNE.out
        rw [HK.out, ← HBL.out]
        exact HO3.out
      case measure => simp [intOf]; omega
    · obtain rfl : k = rl := by omega
      have HE : Hid ((j.recs.take k).map (·.b) = j.recs.map (·.b)) := Lib.hid (by rw [HRL.out, List.take_length])
      obtain ⟨Av, cv, e2, -, -, -⟩ := own_FL HL.out.own
      rw [HK.out] at e2
      subst e2
      go_wp2
      go_ret
      exact ⟨_, rfl, ⟨rs, by rw [← HE.out]; exact HL.out⟩, HB.out⟩

/-! ### Lists -/
theorem toList_loop (bs : ByteArray) (i : Nat) (r : List UInt8) : ByteArray.toList.loop bs i r = r.reverse ++ bs.data.toList.drop i := by
  induction h : bs.size - i generalizing i r with
  | zero =>
    unfold ByteArray.toList.loop
    rw [if_neg (by omega), List.drop_eq_nil_of_le (by show bs.data.size ≤ i; have : bs.size = bs.data.size := rfl; omega)]
    simp
  | succ n ih =>
    have hi : i < bs.data.size := by have : bs.size = bs.data.size := rfl; omega
    unfold ByteArray.toList.loop
    rw [if_pos (by omega), ih (i + 1) _ (by omega), List.drop_eq_getElem_cons (l := bs.data.toList) (i := i) (by simpa using hi)]
    have : bs.get! i = bs.data.toList[i]'(by simpa using hi) := by
      show bs.data[i]! = _
      rw [getElem!_pos bs.data i hi]; simp
    rw [this]
    simp
theorem bytes_toList (bs : ByteArray) : bs.toList = bs.data.toList := by
  unfold ByteArray.toList
  rw [toList_loop]
  rfl
theorem str_ne (S1 S2 : ByteArray) (h : ¬ S1 = S2) : (S1.toList == S2.toList) = false := by
  rw [beq_eq_false_iff_ne, bytes_toList, bytes_toList]
  intro e
  exact h (by cases S1; cases S2; simpa using e)
theorem same_list {ls ms : List (List UInt8)} (hl : ls.length = ms.length) (h : ∀ i, i < ls.length → ls.getD i [] = ms.getD i []) : ls = ms := by
  apply List.ext_getElem?
  intro i
  by_cases hi : i < ls.length
  · have := h i hi
    rw [List.getD_eq_getElem?_getD, List.getD_eq_getElem?_getD, List.getElem?_eq_getElem hi, List.getElem?_eq_getElem (by omega)] at this
    rw [List.getElem?_eq_getElem hi, List.getElem?_eq_getElem (by omega)]
    exact congrArg some this
  · rw [List.getElem?_eq_none (by omega), List.getElem?_eq_none (by omega)]
set_option maxHeartbeats 4000000 in
theorem lists_any (A B : Option Addr) (ca cb : Nat) (ls ms : List (List UInt8)) (w : World) (ha : RL w A ls) (hb : RL w B ms) :
    Calls Try.prog 58 #[.slice A ls.length ca, .slice B ms.length cb] w fun e w' => e = .returned (.bool (decide (ls = ms))) ∧ Below w.heap.size w w' := by
  have hal := ha.len
  have hbl := hb.len
  have HA := Lib.hid ha
  have HBB := Lib.hid hb
  obtain ⟨n, hn⟩ : ∃ n, n = ls.length := ⟨_, rfl⟩
  obtain ⟨m, hm⟩ : ∃ n, n = ms.length := ⟨_, rfl⟩
  have HN := Lib.hid hn
  have HM := Lib.hid hm
  obtain ⟨r, hr⟩ : ∃ r, r = decide (ls = ms) := ⟨_, rfl⟩
  have HR := Lib.hid hr
  rw [← hn] at hal ⊢
  rw [← hm] at hbl ⊢
  rw [← hr]
  clear ha hb hn hm hr
  by_cases hnm : n = m
  · subst hnm
    go_enter Try.func58, Try.ntmps58
    go_wp2
    go_loopw [5] (fun u5 w' => ∃ k : Nat, k ≤ n ∧ u5 = .int .i64 k ∧ Hid (∀ i, i < k → ls.getD i [] = ms.getD i []) ∧ Hid (Below w.heap.size w w')) (fun u5 _ => n - (intOf u5).toNat)
    case atStart => exact ⟨0, by omega, rfl, Lib.hid (fun i hi => by omega), Lib.hid (Below.refl _ _)⟩
    case round =>
      obtain ⟨k, hk, rfl, HE, HB⟩ := hrel
      by_cases hlt : k < n
      · have hlt2 : k < ls.length := by rw [← HN.out]; exact hlt
        have hlt3 : k < ms.length := by rw [← HM.out]; exact hlt
        obtain ⟨ad, Aj, cj, b, rfl, hb1, c0, -, rb0⟩ := (HA.out.below HB.out).at_ k hlt2
        obtain ⟨ad2, Aj2, cj2, b2, rfl, hb2, c1, -, rb1⟩ := (HBB.out.below HB.out).at_ k hlt3
        obtain ⟨bl, hbl1⟩ : ∃ l, l = b.length := ⟨_, rfl⟩
        obtain ⟨bl2, hbl2⟩ : ∃ l, l = b2.length := ⟨_, rfl⟩
        rw [← hbl1] at c0
        rw [← hbl2] at c1
        have q0 : ∀ n, (convert 22 9 (.slice Aj bl cj)).run Try.prog (wr.drewN n) = .ok (.string ⟨b.toArray⟩) (wr.drewN n) := fun n => conv_str hbl1 (rb0.below (bel_drewM (Below.refl _ _) n))
        have q1 : ∀ n, (convert 22 9 (.slice Aj2 bl2 cj2)).run Try.prog (wr.drewN n) = .ok (.string ⟨b2.toArray⟩) (wr.drewN n) := fun n => conv_str hbl2 (rb1.below (bel_drewM (Below.refl _ _) n))
        have bk : (k : Int) < n := by omega
        clear rb0 rb1 hbl1 hbl2 hlt2 hlt3
        by_cases hbb : b2 = b
        · subst hbb
          have HE2 : Hid (ls.getD k [] = ms.getD k []) := Lib.hid (by rw [← hb1, ← hb2])
          clear hb1 hb2
          go_upto_region 6 with fail
          go_quiet (fail)
          go_wp2
          go_roundw
          case rel => exact ⟨k + 1, by omega, by go_num, Lib.hid (fun i hi => by
            by_cases hik : i = k
            · rw [hik]; exact HE2.out
            · exact HE.out i (by omega)), Lib.hid (bel_drewM HB.out _)⟩
          case measure => simp [intOf]; omega
        · have hrf : r = false := by
            rw [HR.out, decide_eq_false_iff_not]
            intro e
            rw [e] at hb1
            exact hbb (hb2.trans hb1.symm)
          have hsn : ¬ ((⟨b.toArray⟩ : ByteArray) = ⟨b2.toArray⟩) := fun e => hbb (by simpa using (congrArg (fun x : ByteArray => x.data.toList) e).symm)
          obtain ⟨S1, hS1⟩ : ∃ S : ByteArray, S = ⟨b.toArray⟩ := ⟨_, rfl⟩
          obtain ⟨S2, hS2⟩ : ∃ S : ByteArray, S = ⟨b2.toArray⟩ := ⟨_, rfl⟩
          rw [← hS1] at q0 hsn
          rw [← hS2] at q1 hsn
          have hse := str_ne S1 S2 hsn
          subst hrf
          clear hb1 hb2 hS1 hS2 hbb
          go_upto_region 6 with fail
          go_quiet (fail)
          go_wp2
          go_ret
          exact ⟨rfl, bel_drewM HB.out _⟩
      · obtain rfl : k = n := by omega
        have hrt : r = true := by
          rw [HR.out, decide_eq_true_iff]
          exact same_list (HN.out.symm.trans HM.out) (fun i hi => HE.out i (by rw [HN.out]; exact hi))
        subst hrt
        go_wp2
        go_ret
        exact ⟨rfl, HB.out⟩
  · have hrf : r = false := by
      rw [HR.out, decide_eq_false_iff_not]
      intro e
      exact hnm (by rw [HN.out, HM.out, e])
    subst hrf
    have hnb : ((n : Int) != (m : Int)) = true := by simp; omega
    go_enter Try.func58, Try.ntmps58
    go_wp2
    go_ret
    exact ⟨rfl, Below.refl _ _⟩

def datB (n k : Int) : List UInt8 := blk (n % 300).toNat k
theorem datB_len (n k : Int) : (datB n k).length = (n % 300).toNat := blk_length _ _
noncomputable def G39 : Array Oper := regionOf Try.f39 1
theorem Gns39 : Region.noSelect G39 = true := by kernel_rfl
set_option maxRecDepth 100000 in
set_option maxHeartbeats 4000000 in
theorem data_any (sk n k : Int) (w : World) (hn : -9223372036854775808 ≤ n ∧ n ≤ 9223372036854775807) :
    Calls Try.prog 39 #[.agg #[.int .i64 sk, .int .i64 n, .int .i64 k]] w (NewB w (n % 300).toNat (datB n k)) := by
  obtain ⟨q, hq⟩ : ∃ q, q = (n % 300).toNat := ⟨_, rfl⟩
  have hqn : n % 300 = (q : Int) := by omega
  have hq3 : q < 300 := by omega
  obtain ⟨bs, hbs⟩ : ∃ bs, bs = datB n k := ⟨_, rfl⟩
  have hl : bs.length = q := by rw [hbs, datB_len, hq]
  have h := fun W => block_any q k W (by omega)
  have hr := fun W => round_any n 300 W hn.1 hn.2 (by omega) (by omega)
  have hdef : blk q k = bs := by rw [hbs, datB, hq]
  obtain ⟨S, hS⟩ : ∃ S : ByteArray, S = ⟨bs.toArray⟩ := ⟨_, rfl⟩
  have hz : S.size = q := by rw [hS]; show bs.toArray.size = q; simpa using hl
  rw [hdef, ← hS] at h
  rw [hqn] at hr
  rw [← hq, ← hbs]
  have HB := Lib.hid h
  have HR := Lib.hid hr
  have HS := Lib.hid hS
  have HL := Lib.hid hl
  have hk := fun (w : World) => run_bytes_of_string (P := Try.prog) w 9 22 5 S Try.underlying9 Try.underlying22 Try.underlying5
  obtain ⟨W0, hW0⟩ : ∃ W, W = w.alloc (.cells #[.int .i64 sk, .int .i64 n, .int .i64 k] 46) := ⟨_, rfl⟩
  have hb0 : Below w.heap.size w W0 := by rw [hW0]; exact bel_alloc (Below.refl _ _) _
  have hg0 : W0.heap[w.heap.size]? = some (.cells #[.int .i64 sk, .int .i64 n, .int .i64 k] 46 (0, 0)) := by rw [hW0]; exact heap_alloc_new w _
  have hlt0 : w.heap.size < W0.heap.size := (Array.getElem?_eq_some_iff.1 hg0).1
  have hcc : ∀ X, Below W0.heap.size W0 X → X.cell? ⟨w.heap.size, 1, none⟩ = some (.int .i64 n) ∧ X.cell? ⟨w.heap.size, 2, none⟩ = some (.int .i64 k) := fun X hX => by
    have := (hX.block _ hlt0).trans hg0
    exact ⟨by rw [cell_of_row _ _ 1 _ _ _ this]; rfl, by rw [cell_of_row _ _ 2 _ _ _ this]; rfl⟩
  have HC := Lib.hid hcc
  obtain ⟨V, hV⟩ : ∃ V, V = W0.drew := ⟨_, rfl⟩
  have hbV : Below W0.heap.size W0 V := by rw [hV]; exact bel_drew (Below.refl _ _)
  have HB0 := Lib.hid (bel_then hb0 hbV)
  obtain ⟨x1, x2⟩ := hcc V hbV
  clear h hr hbs hS hl hdef hg0 hlt0 hcc hq hqn
  go_enter Try.func39, Try.ntmps39
  go_upto_region 1 with fail
  rw [← hW0]
  refine region_const (G := G39) (S := fun X => X.cell? ⟨w.heap.size, 1, none⟩ = some (.int .i64 n) ∧ X.cell? ⟨w.heap.size, 2, none⟩ = some (.int .i64 k)) (n := 8) (by kernel_rfl) (by kernel_rfl) rfl (by rw [← hV]; exact ⟨x1, x2⟩) (fun HG hS0 => ?_)
  have Gns := Gns39
  rw [← hV]
  rw [← hV] at hS0
  clear hV hW0 x1 x2
  simp only [Array.replicate_succ, Array.replicate_zero, List.push_toArray, List.nil_append, List.cons_append]
  refine wpAnyH_take (i := 0) (v := ?_) (o_at HG 0 rfl) Gns (by kernel_rfl) (by kernel_rfl) (fun _ _ _ h => h) (Or.inl ⟨(by kernel_rfl), ?_⟩) (by first | trivial | assumption) ?_
  rotate_left
  · (intro w hSw; (try dsimp only at hSw); go_simp; try with_reducible rfl)
  try simp only [Act.put, List.getElem_toArray, List.getElem_cons_zero, List.getElem_cons_succ, List.setIfInBounds_toArray, List.set_cons_zero, List.set_cons_succ]
  refine wpAnyH_take (i := 1) (v := ?_) (o_at HG 1 rfl) Gns (by kernel_rfl) (by kernel_rfl) (fun _ _ _ h => h) (Or.inl ⟨(by kernel_rfl), ?_⟩) (by first | trivial | assumption) ?_
  rotate_left
  · (intro w hSw; (try dsimp only at hSw); go_simp; try with_reducible rfl)
  try simp only [Act.put, List.getElem_toArray, List.getElem_cons_zero, List.getElem_cons_succ, List.setIfInBounds_toArray, List.set_cons_zero, List.set_cons_succ]
  refine wpAnyH_take (i := 3) (v := ?_) (o_at HG 3 rfl) Gns (by kernel_rfl) (by kernel_rfl) (fun _ _ _ h => h) (Or.inl ⟨(by kernel_rfl), ?_⟩) (by first | trivial | assumption) ?_
  rotate_left
  · (intro w hSw; (try dsimp only at hSw); go_simp; try with_reducible rfl)
  try simp only [Act.put, List.getElem_toArray, List.getElem_cons_zero, List.getElem_cons_succ, List.setIfInBounds_toArray, List.set_cons_zero, List.set_cons_succ]
  refine wpAnyH_take (i := 4) (v := ?_) (o_at HG 4 rfl) Gns (by kernel_rfl) (by kernel_rfl) (fun _ _ _ h => h) (Or.inl ⟨(by kernel_rfl), ?_⟩) (by first | trivial | assumption) ?_
  rotate_left
  · (intro w hSw; (try dsimp only at hSw); go_simp; try with_reducible rfl)
  try simp only [Act.put, List.getElem_toArray, List.getElem_cons_zero, List.getElem_cons_succ, List.setIfInBounds_toArray, List.set_cons_zero, List.set_cons_succ]
  refine wpAnyH_ready (rs := [2]) (by kernel_rfl) (by simp) ?_
  refine AllReadyH.cons (o_at HG 2 rfl) ?_ (AllReadyH.nil)
  · intro K' hK
    rw [if_pos (by kernel_rfl)]
    go_simp
    (with_reducible refine (HR.out _).mono ?_)
    rintro e X1 ⟨rfl, rfl⟩
    refine hK.out _ _ ⟨hS0.1, hS0.2⟩ (fun _ => ?_)
    try simp only [Act.put, List.getElem_toArray, List.getElem_cons_zero, List.getElem_cons_succ, List.setIfInBounds_toArray, List.set_cons_zero, List.set_cons_succ]
    refine wpAnyH_ready (rs := [5]) (by kernel_rfl) (by simp) ?_
    refine AllReadyH.cons (o_at HG 5 rfl) ?_ (AllReadyH.nil)
    · intro K' hK
      rw [if_pos (by kernel_rfl)]
      go_simp
      (with_reducible refine (HB.out _).mono ?_)
      rintro e X1 ⟨rfl, hb1⟩
      have HB1 := Lib.hid hb1
      obtain ⟨s1, s2⟩ := HC.out X1 (bel_then hbV hb1)
      refine hK.out _ _ ⟨s1, s2⟩ (fun _ => ?_)
      clear s1 s2 hb1
      try simp only [Act.put, List.getElem_toArray, List.getElem_cons_zero, List.getElem_cons_succ, List.setIfInBounds_toArray, List.set_cons_zero, List.set_cons_succ]
      refine wpAnyH_ready (rs := [6]) (by kernel_rfl) (by simp) ?_
      refine AllReadyH.cons (o_at HG 6 rfl) ?_ (AllReadyH.nil)
      · intro K' hK
        rw [if_pos (by kernel_rfl)]
        go_simp
        have hbX := bel_drew (bel_alloc (Below.refl X1.heap.size X1) (.cells (bytesRow S (grownCap X1 q 0 5)) 5 ((bytesRow S (grownCap X1 q 0 5)).size, (bytesRow S (grownCap X1 q 0 5)).size + 1)))
        obtain ⟨s1, s2⟩ := HC.out _ (bel_then (bel_then hbV HB1.out) hbX)
        refine hK.out _ _ ⟨s1, s2⟩ (fun _ => ?_)
        clear s1 s2
        try simp only [Act.put, List.getElem_toArray, List.getElem_cons_zero, List.getElem_cons_succ, List.setIfInBounds_toArray, List.set_cons_zero, List.set_cons_succ]
        refine wpAnyH_take (i := 7) (v := ?_) (o_at HG 7 rfl) Gns (by kernel_rfl) (by kernel_rfl) (fun _ _ _ h => h) (Or.inl ⟨(by kernel_rfl), ?_⟩) (by first | trivial | assumption) ?_
        rotate_left
        · (intro w hSw; (try dsimp only at hSw); go_simp; try with_reducible rfl)
        try simp only [Act.put, List.getElem_toArray, List.getElem_cons_zero, List.getElem_cons_succ, List.setIfInBounds_toArray, List.set_cons_zero, List.set_cons_succ]
        refine wpAnyH_done (by kernel_rfl) ?_ _
        apply_assumption
        go_wp2
        go_ret
        have hsz := HB1.out.size
        have hcap := grownCap_ge X1 q 0 5
        refine ⟨some ⟨X1.heap.size, 0, none⟩, _, rfl, ⟨by omega, fun h => by cases h⟩, ?_, fun ad e => by cases e; exact Nat.le_trans HB0.out.size hsz, bel_drew (bel_alloc (bel_then HB0.out HB1.out) _)⟩
        refine RB.drew (RB.mk' (by rw [HL.out]; omega) fun _ => ⟨_, rfl, fun j hj => cell_alloc X1 _ 5 _ _ rfl j _ ?_⟩)
        rw [HS.out]
        have hd : (⟨bs.toArray⟩ : ByteArray).data = bs.toArray := rfl
        unfold bytesRow
        rw [hd, Array.getElem?_append_left (by simpa using hj)]
        simp [List.getD_eq_getElem?_getD, List.getElem?_eq_getElem hj]
end Go.Proofs.Ytdldclakkplliaa
