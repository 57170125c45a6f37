/- The walk of the document's Flush. Conditions: none. -/
import Derived.Test.YtdldclakkplliaaRefD
import Derived.BigRegion
import Derived.BigQuiet
namespace Go.Proofs.Ytdldclakkplliaa
set_option linter.unusedVariables false
set_option linter.unusedSimpArgs false
open Go.RowKit

def putS (f : Nat → Option Wr) (ws : List Wr) : Nat → Option Wr := ws.foldl (fun f s => updS f s.at_.toNat (some s)) f
theorem putS_take (f : Nat → Option Wr) (ws : List Wr) (k : Nat) (s : Wr) (h : ws[k]? = some s) : putS f (ws.take (k + 1)) = updS (putS f (ws.take k)) s.at_.toNat (some s) := by
  unfold putS
  rw [List.take_add_one, h, List.foldl_append]
  rfl
theorem putS_mem {f : Nat → Option Wr} {ws : List Wr} {i : Nat} {s : Wr} (h : putS f ws i = some s) : f i = some s ∨ s ∈ ws := by
  induction ws generalizing f with
  | nil => exact .inl h
  | cons q ws ih =>
    rcases ih (f := updS f q.at_.toNat (some q)) h with h1 | h1
    · unfold updS at h1
      split at h1
      · cases h1; exact .inr (List.mem_cons_self ..)
      · exact .inl h1
    · exact .inr (List.mem_cons_of_mem _ h1)
def rflushD (r : RK) : RK := if (ractK r).2 = 0 then { (ractK r).1 with safe := putS r.safe r.cache, cache := [] } else (ractK r).1
def RFlushQ (id gm : Nat) (r : RK) (w : World) (col : Nat → Nat) (e : Ending) (w' : World) : Prop :=
  e = .returned (.int .i64 (ractK r).2) ∧ ∃ col', Step id w col w' col' ∧ RefAt w' col' id gm (rflushD r)
theorem ref_flush {w Y : World} {col : Nat → Nat} {id gm : Nat} {vs vc v1 : Value} {r : RK} (h : RefV w col id gm vs vc r) (hk : Keeps (fun k => k = gm) w Y) (hg : Y.heap[gm]? = some (.cells (rcells r v1 (.slice none 0 0)) 104 (0, 0)))
    (ho : Y.ownsRow w.heap.size 22 1 v1 r.n (rowS (putS r.safe r.cache) r.n)) :
    ∃ col', Step id w col Y col' ∧ RefV Y col' id gm v1 (.slice none 0 0) { r with safe := putS r.safe r.cache, cache := [] } := by
  have st : Step id w col Y (paint w col (fun _ => id)) := Step.mk' (hk.mono fun k _ e => e ▸ h.hcol)
  have hgl := h.lt
  refine ⟨_, st, ⟨(paint_old hgl).trans h.hcol, h.nz, hg, own_mono ho (Nat.zero_le _), World.ownsRow_nil _ 0 109 2, fun k hk2 => ⟨by have := (ho.lt k hk2).1; omega, paint_new (ho.lt k hk2).1⟩, fun k hk2 => by simp [Value.ownBlock] at hk2, fun i s hs => ?_, fun q hq => (by cases hq), h.dom⟩⟩
  rcases putS_mem hs with h1 | h1
  · exact (h.sd i s h1).step st h.nz
  · exact (h.cd s h1).1.step st h.nz
theorem keeps_cell {I : Nat → Prop} {w W : World} (h : Keeps I w W) {g j : Nat} {u : Value} (hc : w.cell? ⟨g, j, none⟩ = some u) (hn : ¬ I g) : W.cell? ⟨g, j, none⟩ = some u := h.cell hc hn

set_option maxRecDepth 100000 in
set_option maxHeartbeats 4000000 in
theorem rflush_good (id gm : Nat) (vs vc : Value) (r0 : RK) (a : Nat) (w0 : World) (col : Nat → Nat) (h : RefV w0 col id gm vs vc r0) (hf : r0.fits a) (hn : a ≤ 1000000) (he : (ractK r0).2 = 0) :
    Calls Try.prog 63 #[.pointer (some ⟨gm, 0, none⟩)] w0 fun e w' => e = .returned (.int .i64 0) ∧ ∃ col' v1 v2, Step id w0 col w' col' ∧ RefV w' col' id gm v1 v2 { (ractK r0).1 with safe := putS r0.safe r0.cache, cache := [] } := by
  have hask := act_any id gm vs vc r0 a w0 col h hf (by omega)
  have HASK := Lib.hid hask
  have HE := Lib.hid he
  have HSAME := Lib.hid (ract_same r0)
  have HCN := Lib.hid hf.2.2.2.2
  clear h hask hf he
  go_enter Try.func63, Try.ntmps63
  go_wp2_with fail
  refine HASK.out.mono ?_
  rintro e w ⟨rfl, st0, h⟩
  rw [HE.out]
  obtain ⟨r, hr⟩ : ∃ r, r = (ractK r0).1 := ⟨_, rfl⟩
  rw [← hr] at h HSAME
  have HRR := Lib.hid hr
  have HST := Lib.hid st0
  have HV := Lib.hid h
  obtain ⟨gs, cs, rfl, hcs, -, -, -⟩ := own_FS h.so h.dom.1
  obtain ⟨AC, cc, rfl, hfw⟩ := own_FW h.co
  have hnw := own_news h.so
  have hgl := h.lt
  obtain ⟨n, hn1⟩ : ∃ n, n = r.n := ⟨_, rfl⟩
  obtain ⟨m, hm⟩ : ∃ m, m = r.cache.length := ⟨_, rfl⟩
  have hml : m ≤ 1000000 := by rw [hm, HSAME.out.2.2]; have := HCN.out; omega
  have hnl : 1 ≤ n ∧ n ≤ 65536 := by rw [hn1]; exact h.dom
  have HACB : Hid (∀ ad, AC = some ad → 0 < m → ad.block ≠ gm) := Lib.hid (fun ad e hp e2 => by
    have h1 := h.cb ad.block (by rw [e]; rfl)
    rw [e2, h.hcol] at h1
    exact h.nz h1)
  have HC1 : Hid (∀ X, Below w.heap.size w X → X.heap[gm]? = some (.cells (rcells r (.slice (some ⟨gs, 0, none⟩) n cs) (.slice AC m cc)) 104 (0, 0))) := Lib.hid fun X hX => by rw [hn1, hm]; exact heap_below h.obj hX
  have HFW := Lib.hid hfw
  have HATS : Hid (∀ s, s ∈ r.cache → 0 ≤ s.at_ ∧ s.at_ < n) := Lib.hid (fun s hs => by rw [hn1]; exact (h.cd s hs).2)
  rw [← hn1] at hnw hcs
  have HNW := Lib.hid hnw
  have HNEWS : Hid (∀ X, Below w.heap.size w X → 0 < n → ∃ ad, (some ⟨gs, 0, none⟩ : Option Addr) = some ad ∧ ∀ j u, (rowS r.safe n)[j]? = some u → X.cell? (ad.add j) = some u) := Lib.hid (fun X hX hp => by
    obtain ⟨ad, e, hh⟩ := HNW.out.2 hp
    refine ⟨ad, e, fun j u hu => hh X (fun k hk => hX.block k ?_) j u hu⟩
    have := (h.so.lt k (by rw [hk]; rfl)).2
    exact this)
  have HM := Lib.hid hm
  have HN := Lib.hid hn1
  have c0 : ∀ o : Obj, (w.alloc o).cell? ⟨gm, 0, none⟩ = some (.slice (some ⟨gs, 0, none⟩) n cs) := fun o => by rw [cell_of_row _ _ 0 _ _ _ (HC1.out _ (bel_alloc (Below.refl _ _) o))]; rfl
  have HOO : Hid ((w.alloc (.cells #[] 22)).ownsRow w.heap.size 22 1 (.slice (some ⟨w.heap.size, 0, none⟩) 0 0) 0 []) := Lib.hid (World.ownsRow_made w #[] 0 (Nat.le_refl _) (Nat.zero_le _) (by simp))
  clear h hr st0 hnw hfw hm hn1
  go_wp2_with (first
    | (at_builtin; go_loud (refine wp_app rfl (.tmp 11) (.tmp 15) 23 rfl w.heap.size 22 (.slice none 0 0) 1 24 Try.underlying23 info22 rfl (by decide) (.slice (some ⟨w.heap.size, 0, none⟩) 0 0) 0 [] rfl HOO.out (some ⟨gs, 0, none⟩) n cs (rowS r.safe n) rfl (by rw [rowS_length, Nat.mul_one]) (fun e => by cases e) (HNEWS.out _ (bel_alloc (Below.refl _ _) _)) (rowS_one _ _) (by unfold maxLen; omega) (by omega) (by simp) ?_); intro v1 W2 ho hg hv; rw [List.nil_append, Nat.zero_add] at ho; obtain ⟨gn, cn, rfl, hcn, hgn, -, -⟩ := own_FS ho hnl.1; have HO2 := Lib.hid ho; have HB2 := Lib.hid (bel_grown (bel_alloc (Below.refl w.heap.size w) _) hg (fun k e => by cases e; exact Nat.le_refl _)); have fz := frozen_of_row _ _ 0 _ _ (HC1.out W2 HB2.out); have cz : W2.cell? ⟨gm, 0, none⟩ = some (.slice (some ⟨gs, 0, none⟩) n cs) := (cell_of_row _ _ 0 _ _ _ (HC1.out W2 HB2.out)).trans rfl; clear ho hg hv c0)
    | fail)
  have HNN : Hid (gn ≠ gm) := Lib.hid (by omega)
  have HO3 : Hid ((W2.setCell ⟨gm, 0, none⟩ (.slice (some ⟨gn, 0, none⟩) n cn)).ownsRow w.heap.size 22 1 (.slice (some ⟨gn, 0, none⟩) n cn) n (rowS (putS r.safe (r.cache.take 0)) n)) := Lib.hid (own_keep HO2.out fun k hk => Below.heap_setCell _ _ _ _ (by cases hk; exact HNN.out))
  have HG3 : Hid ((W2.setCell ⟨gm, 0, none⟩ (.slice (some ⟨gn, 0, none⟩) n cn)).heap[gm]? = some (.cells (rcells r (.slice (some ⟨gn, 0, none⟩) n cn) (.slice AC m cc)) 104 (0, 0))) := Lib.hid (by have := row_set (j := 0) (.slice (some ⟨gn, 0, none⟩) n cn) (HC1.out W2 HB2.out); exact this)
  have HK3 : Hid (Keeps (fun k => k = gm) w (W2.setCell ⟨gm, 0, none⟩ (.slice (some ⟨gn, 0, none⟩) n cn))) := Lib.hid (keeps_set (I := fun k => k = gm) ((Keeps.refl _ w).below HB2.out) rfl)
  clear fz cz
  go_loopw [4] (fun u4 w' => ∃ k : Nat, k ≤ m ∧ u4 = .int .i64 k ∧ Hid (Keeps (fun k => k = gm) w w') ∧ Hid (w'.heap[gm]? = some (.cells (rcells r (.slice (some ⟨gn, 0, none⟩) n cn) (.slice AC m cc)) 104 (0, 0))) ∧ Hid (w'.ownsRow w.heap.size 22 1 (.slice (some ⟨gn, 0, none⟩) n cn) n (rowS (putS r.safe (r.cache.take k)) n))) (fun u4 _ => m - (intOf u4).toNat)
  case atStart => exact ⟨0, by omega, rfl, HK3, HG3, HO3⟩
  case round =>
    clear HK3 HG3 HO3
    obtain ⟨k, hk, rfl, HK, HG, HO⟩ := hrel
    have c0 : wr.cell? ⟨gm, 0, none⟩ = some (.slice (some ⟨gn, 0, none⟩) n cn) := by rw [cell_of_row _ _ 0 _ _ _ HG.out]; rfl
    have c1 : wr.cell? ⟨gm, 1, none⟩ = some (.slice AC m cc) := by rw [cell_of_row _ _ 1 _ _ _ HG.out]; rfl
    by_cases hlt : k < m
    · obtain ⟨s, hs⟩ : ∃ s, r.cache[k]? = some s := ⟨_, List.getElem?_eq_getElem (by rw [← HM.out]; exact hlt)⟩
      have hats := HATS.out s (List.mem_of_getElem? hs)
      obtain ⟨gc, rfl, y0, y1⟩ := HFW.out.at_ k s hs
      have hgc := HACB.out _ rfl (by omega)
      have x0 := keeps_cell HK.out y0 hgc
      have x1 := keeps_cell HK.out y1 hgc
      obtain ⟨t, ht⟩ : ∃ t : Nat, s.at_ = (t : Int) := ⟨s.at_.toNat, by omega⟩
      rw [ht] at x0 hats
      have HT : Hid (s.at_.toNat = t) := Lib.hid (by omega)
      have HSS := Lib.hid hs
      obtain ⟨_, _, e1, -, -, hcell, hfr⟩ := own_FS HO.out hnl.1
      cases e1
      have htn : t < n := by omega
      have f0 := hfr t
      have f1 := hcell t htn
      have HGN : Hid (w.heap.size ≤ gn) := Lib.hid hgn
      clear hs y0 y1 ht hcell hfr
      go_upto_region 8 with fail
      go_region
      have HS := Lib.hid (own_setS HO.out t (some s))
      have hgnm : gn ≠ gm := HNN.out
      go_wp2
      go_roundw
      case rel =>
        refine ⟨k + 1, by omega, by go_num, Lib.hid ?_, Lib.hid ?_, Lib.hid ?_⟩
        · exact ((HK.out.setCell (.inr HGN.out) _).drew)
        · exact (Below.heap_setCell wr ⟨gn, t, none⟩ _ gm hgnm.symm).trans HG.out
        · rw [putS_take _ _ _ _ HSS.out, HT.out]
          exact HS.out
      case measure => simp [intOf]; omega
    · obtain rfl : k = m := by omega
      have fz := frozen_of_row _ _ 1 _ _ HG.out
      have hte : r.cache.take k = r.cache := by rw [HM.out]; exact List.take_length
      rw [hte] at HO
      clear hte
      go_wp2
      go_ret
      have hset := row_set (j := 1) (.slice none 0 0) HG.out
      obtain ⟨col', st, hd⟩ := ref_flush (Y := wr.setCell ⟨gm, 1, none⟩ (.slice none 0 0)) HV.out (keeps_set (I := fun k => k = gm) HK.out rfl) (v1 := .slice (some ⟨gn, 0, none⟩) n cn) (by exact hset) (by
        rw [← HN.out]
        exact own_keep HO.out fun k hk => Below.heap_setCell _ _ _ _ (by cases hk; exact HNN.out))
      refine ⟨rfl, col', .slice (some ⟨gn, 0, none⟩) n cn, .slice none 0 0, HST.out.trans st, ?_⟩
      rw [HSAME.out.2.1, HSAME.out.2.2] at hd
      rw [← HRR.out]
      exact hd
theorem rflush_bad (id gm : Nat) (vs vc : Value) (r0 : RK) (n : Nat) (w0 : World) (col : Nat → Nat) (h : RefV w0 col id gm vs vc r0) (hf : r0.fits n) (hn : n ≤ 1000000) (he : (ractK r0).2 = 7) :
    Calls Try.prog 63 #[.pointer (some ⟨gm, 0, none⟩)] w0 fun e w' => e = .returned (.int .i64 7) ∧ Step id w0 col w' col ∧ RefV w' col id gm vs vc (ractK r0).1 := by
  have hask := act_any id gm vs vc r0 n w0 col h hf (by omega)
  have HASK := Lib.hid hask
  have HE := Lib.hid he
  clear h hask hf he
  go_enter Try.func63, Try.ntmps63
  go_wp2_with fail
  refine HASK.out.mono ?_
  rintro e w ⟨rfl, st0, h⟩
  rw [HE.out]
  go_wp2
  go_ret
  exact ⟨rfl, st0, h⟩
theorem rflush_any (id gm : Nat) (r : RK) (n : Nat) (w : World) (col : Nat → Nat) (h : RefAt w col id gm r) (hf : r.fits n) (hn : n ≤ 1000000) :
    Calls Try.prog 63 #[.pointer (some ⟨gm, 0, none⟩)] w (RFlushQ id gm r w col) := by
  obtain ⟨vs, vc, h⟩ := h
  rcases ract_e r with he | he
  · refine (rflush_good id gm vs vc r n w col h hf hn he).mono ?_
    rintro e w' ⟨rfl, col', v1, v2, st, hd⟩
    refine ⟨by rw [he], col', st, ?_⟩
    unfold rflushD
    rw [if_pos he]
    exact ⟨_, _, hd⟩
  · refine (rflush_bad id gm vs vc r n w col h hf hn he).mono ?_
    rintro e w' ⟨rfl, st, hd⟩
    refine ⟨by rw [he], col, st, ?_⟩
    unfold rflushD
    rw [if_neg (by omega)]
    exact ⟨_, _, hd⟩
end Go.Proofs.Ytdldclakkplliaa
