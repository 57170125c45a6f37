/- The walk of the document's Crash. Conditions: none. -/
import Derived.Test.YtdldclakkplliaaRefFlush
import Derived.Deep.DeepCutAuto
namespace Go.Proofs.Ytdldclakkplliaa
set_option linter.unusedVariables false
set_option linter.unusedSimpArgs false
open Go.RowKit

noncomputable def G37 : Array Oper := regionOf Try.f37 20
theorem Gns37 : Region.noSelect G37 = true := by kernel_rfl

theorem ref_setS {w : World} {col : Nat → Nat} {id gm gn n c : Nat} {vc : Value} {r : RK} (h : RefV w col id gm (.slice (some ⟨gn, 0, none⟩) n c) vc r) (hn : n = r.n) (j : Nat) (s : Wr) (hs : Sec w col s) :
    Step id w col (w.setCell ⟨gn, j, none⟩ (sval (some s))) col ∧ RefV (w.setCell ⟨gn, j, none⟩ (sval (some s))) col id gm (.slice (some ⟨gn, 0, none⟩) n c) vc { r with safe := updS r.safe j (some s) } := by
  have hgn := h.sb gn rfl
  have st : Step id w col (w.setCell ⟨gn, j, none⟩ (sval (some s))) col := ⟨(Keeps.refl _ w).setCell (.inl hgn.2) _, fun _ _ => rfl⟩
  refine ⟨st, ⟨h.hcol, h.nz, (Below.heap_setCell w ⟨gn, j, none⟩ _ gm hgn.1.symm).trans h.obj, ?_, own_keep h.co fun k hk => Below.heap_setCell _ _ _ _ (fun e => h.nz (hgn.2.symm.trans ((congrArg col (show gn = k from e.symm)).trans (h.cb k hk)))), h.sb, h.cb, fun i q hq => ?_, fun q hq => ⟨(h.cd q hq).1.step st h.nz, (h.cd q hq).2⟩, h.dom⟩⟩
  · subst hn
    exact own_setS h.so j (some s)
  · have hq' : updS r.safe j (some s) i = some q := hq
    unfold updS at hq'
    split at hq'
    · cases hq'; exact hs.step st h.nz
    · exact (h.sd i q hq').step st h.nz
def rcrashK (r : RK) (f : Nat → Option Wr) : RK := ⟨r.n, f, [], -1, false, 0⟩
def RCrashQ (id2 : Nat) (r : RK) (ps : List Int) (w : World) (col : Nat → Nat) (e : Ending) (w' : World) : Prop :=
  ∃ gm2 f col', e = .returned (.pointer (some ⟨gm2, 0, none⟩)) ∧ Step id2 w col w' col' ∧ RefAt w' col' id2 gm2 (rcrashK r f) ∧
    ∀ i : Nat, secB (f i) = crashB (tornK (pickK ps 1) (liveK (pickK ps 0) r.cache r.cache.length).length) (pickK ps 2 % 65).toNat (fun i => secB (r.safe i.toNat)) (liveK (pickK ps 0) r.cache r.cache.length) (liveK (pickK ps 0) r.cache r.cache.length).length i

set_option maxRecDepth 100000 in
set_option maxHeartbeats 8000000 in
theorem rcrash_walk (id id2 gm : Nat) (vs vc : Value) (r : RK) (A : Option Addr) (c : Nat) (ps : List Int) (w : World) (col : Nat → Nat) (h : RefV w col id gm vs vc r) (hp2 : ∀ (w' : World) (col' : Nat → Nat), Step id2 w col w' col' → RI w' A ps) (hid : id2 ≠ 0) (hne : id2 ≠ id) (hcl : r.cache.length ≤ 1000000) (hpb : ∀ x ∈ ps, -9223372036854775808 ≤ x ∧ x ≤ 9223372036854775807) :
    Calls Try.prog 37 #[.pointer (some ⟨gm, 0, none⟩), .slice A ps.length c] w (RCrashQ id2 r ps w col) := by
  have HV := Lib.hid h
  have HP2 := Lib.hid hp2
  have HPB := Lib.hid hpb
  obtain ⟨np, hnp⟩ : ∃ n, n = ps.length := ⟨_, rfl⟩
  have HNP := Lib.hid hnp
  rw [← hnp]
  obtain ⟨gs, cs, rfl, hcs, -, -, -⟩ := own_FS h.so h.dom.1
  obtain ⟨AC, cc, rfl, hfw⟩ := own_FW h.co
  have hnw := own_news h.so
  obtain ⟨n, hn1⟩ : ∃ n, n = r.n := ⟨_, rfl⟩
  obtain ⟨m, hm⟩ : ∃ m, m = r.cache.length := ⟨_, rfl⟩
  have hnl : 1 ≤ n ∧ n ≤ 65536 := by rw [hn1]; exact h.dom
  have HFW := Lib.hid hfw
  have HC1 : Hid (∀ X, Below w.heap.size w X → X.heap[gm]? = some (.cells (rcells r (.slice (some ⟨gs, 0, none⟩) n cs) (.slice AC m cc)) 104 (0, 0))) := Lib.hid fun X hX => by rw [hn1, hm]; exact heap_below h.obj hX
  rw [← hn1] at hnw hcs
  rw [← hm] at hcl
  have HNW := Lib.hid hnw
  have HNEWS : Hid (∀ X, Below w.heap.size w X → 0 < n → ∃ ad, (some ⟨gs, 0, none⟩ : Option Addr) = some ad ∧ ∀ j u, (rowS r.safe n)[j]? = some u → X.cell? (ad.add j) = some u) := Lib.hid (fun X hX hp => by
    obtain ⟨ad, e, hh⟩ := HNW.out.2 hp
    refine ⟨ad, e, fun j u hu => hh X (fun k hk => hX.block k ?_) j u hu⟩
    have := (h.so.lt k (by rw [hk]; rfl)).2
    exact this)
  have HM := Lib.hid hm
  have HN := Lib.hid hn1
  have c0 : ∀ o : Obj, (w.alloc o).cell? ⟨gm, 0, none⟩ = some (.slice (some ⟨gs, 0, none⟩) n cs) := fun o => by rw [cell_of_row _ _ 0 _ _ _ (HC1.out _ (bel_alloc (Below.refl _ _) o))]; rfl
  have HOO : Hid ((w.alloc (.cells #[] 22)).ownsRow w.heap.size 22 1 (.slice (some ⟨w.heap.size, 0, none⟩) 0 0) 0 []) := Lib.hid (World.ownsRow_made w #[] 0 (Nat.le_refl _) (Nat.zero_le _) (by simp))
  clear h hnw hfw hm hn1 hnp hp2 hpb
  go_enter Try.func37, Try.ntmps37
  go_wp2_with (first
    | (at_builtin; go_loud (refine wp_app rfl (.tmp 13) (.tmp 17) 23 rfl w.heap.size 22 (.slice none 0 0) 1 24 Try.underlying23 info22 rfl (by decide) (.slice (some ⟨w.heap.size, 0, none⟩) 0 0) 0 [] rfl HOO.out (some ⟨gs, 0, none⟩) n cs (rowS r.safe n) rfl (by rw [rowS_length, Nat.mul_one]) (fun e => by cases e) (HNEWS.out _ (bel_alloc (Below.refl _ _) _)) (rowS_one _ _) (by unfold maxLen; omega) (by omega) (by simp) ?_); intro v1 W1 ho hg hv; rw [List.nil_append, Nat.zero_add] at ho; obtain ⟨gn, cn, rfl, hcn, hgn, -, -⟩ := own_FS ho hnl.1; have HO1 := Lib.hid ho; have HB1 := Lib.hid (bel_grown (bel_alloc (Below.refl w.heap.size w) _) hg (fun k e => by cases e; exact Nat.le_refl _)); clear ho hg hv c0)
    | fail)
  have hb2 := bel_alloc HB1.out (.cells #[.slice (some ⟨gn, 0, none⟩) n cn, .slice none 0 0, .int .i64 (-1), .bool false, .int .i64 0] 104)
  obtain ⟨gm2, hgm2⟩ : ∃ g, g = W1.heap.size := ⟨_, rfl⟩
  have hlt1 := (HO1.out.lt gn rfl).2
  obtain ⟨st2, R2⟩ : Step id2 w col (W1.alloc (.cells #[.slice (some ⟨gn, 0, none⟩) n cn, .slice none 0 0, .int .i64 (-1), .bool false, .int .i64 0] 104)) (paint w col (fun _ => id2)) ∧ RefV (W1.alloc (.cells #[.slice (some ⟨gn, 0, none⟩) n cn, .slice none 0 0, .int .i64 (-1), .bool false, .int .i64 0] 104)) (paint w col (fun _ => id2)) id2 gm2 (.slice (some ⟨gn, 0, none⟩) n cn) (.slice none 0 0) (rcrashK r r.safe) := by
    have st := (Step.refl id2 w col).grow hb2 (fun _ => id2)
    refine ⟨st, ⟨?_, hid, ?_, ?_, World.ownsRow_nil _ 0 109 2, fun k hk => ?_, fun k hk => by simp [Value.ownBlock] at hk, fun i s hs => (HV.out.sd i s hs).step st hid, fun s hs => (by cases hs), HV.out.dom⟩⟩
    · rw [hgm2]; exact paint_new HB1.out.size
    · rw [hgm2]; exact heap_alloc_new W1 _
    · show World.ownsRow _ 0 22 1 _ r.n (rowS r.safe r.n)
      rw [← HN.out]
      exact own_mono (own_keep HO1.out fun k hk => Below.heap_alloc _ _ _ (HO1.out.lt k hk).2) (Nat.zero_le _)
    · cases hk
      exact ⟨by rw [hgm2]; show gn ≠ W1.heap.size; omega, paint_new hgn⟩
  have HST2 := Lib.hid st2
  have HE2 := Lib.hid R2
  have HPR := Lib.hid (HP2.out _ _ st2)
  have HV2 := Lib.hid (HV.out.step st2 hne hid)
  rw [← hgm2]
  clear hb2 hgm2 st2 R2 hlt1 HB1 HO1
  generalize W1.alloc (.cells #[.slice (some ⟨gn, 0, none⟩) n cn, .slice none 0 0, .int .i64 (-1), .bool false, .int .i64 0] 104) = W0 at *
  generalize paint w col (fun _ => id2) = col0 at *
  have hgm0 := HV2.out.obj
  have HC0 : Hid (∀ X, Below W0.heap.size W0 X → X.cell? ⟨gm, 1, none⟩ = some (.slice AC m cc)) := Lib.hid (fun X hX => by rw [cell_of_row _ _ 1 _ _ _ (heap_below hgm0 hX), HM.out]; rfl)
  obtain ⟨p0, hp0⟩ : ∃ p, p = pickK ps 0 := ⟨_, rfl⟩
  have HPK := Lib.hid (fun (W : World) (hW : Below W0.heap.size W0 W) (j : Nat) (hj : j ≤ 1000) => rpick_any A c ps j W (HPR.out.below hW) hj)
  rw [← HNP.out] at HPK
  have HP0 := Lib.hid hp0
  obtain ⟨A2', cc2', e2', hfw2⟩ := own_FW HV2.out.co
  rw [← HM.out] at e2'
  cases e2'
  have HFW2 : Hid (FW W0 AC cc r.cache) := Lib.hid hfw2
  clear hp0 hgm0 hfw2 HFW
  go_wp2
  go_loopw [6, 7] (fun u6 u7 w' => ∃ (k q : Nat), k ≤ m ∧ q ≤ k ∧ u7 = .int .i64 k ∧ Hid (q = (liveK p0 r.cache k).length) ∧ Hid (w'.ownsRow W0.heap.size 109 2 u6 q (rowW (liveK p0 r.cache k))) ∧ Hid (Below W0.heap.size W0 w')) (fun _ u7 _ => m - (intOf u7).toNat)
  case atStart => exact ⟨0, 0, Nat.zero_le _, Nat.le_refl _, rfl, Lib.hid rfl, Lib.hid (World.ownsRow_nil _ _ 109 2), Lib.hid (Below.refl _ _)⟩
  case round =>
    obtain ⟨k, q, hk, hqk, rfl, HQ, HO, HB⟩ := hrel
    have x1 := HC0.out wr HB.out
    by_cases hlt : k < m
    · obtain ⟨s, hs⟩ : ∃ s, s = elB r.cache k := ⟨_, rfl⟩
      have hs2 : r.cache[k]? = some s := by rw [hs, elB, List.getD_eq_getElem?_getD, List.getElem?_eq_getElem (by rw [← HM.out]; exact hlt)]; rfl
      obtain ⟨gg, rfl, ha0, ha1⟩ := HFW2.out.at_ k s hs2
      have hb0 := (HB.out.cell (World.block_lt_of_cell? _ _ ha0)).trans ha0
      have hb1 := (HB.out.cell (World.block_lt_of_cell? _ _ ha1)).trans ha1
      have HSE := Lib.hid hs
      clear ha0 ha1 hs hs2
      go_wp2_with fail
      refine (HPK.out _ HB.out 0 (by omega)).mono ?_
      rintro e w' ⟨rfl, rfl⟩
      rw [← HP0.out]
      cases hlive : liveQ p0 k with
      | true =>
        have HLV := Lib.hid hlive
        unfold liveQ at hlive
        obtain ⟨z109, hz109, hzs109⟩ := info109
        go_wp2_with (first | (at_builtin; go_loud (refine wp_app rfl _ _ 102 rfl W0.heap.size 109 z109 2 32 Try.underlying102 hz109 hzs109 (by decide) u6 q (rowW (liveK p0 r.cache k)) rfl (own_keep HO.out fun j hj => Below.heap_alloc _ _ _ (HO.out.lt j hj).2) _ 1 _ [.int .i64 s.at_, .slice s.A s.b.length s.c] rfl rfl (fun e => by cases e) (fun _ => ⟨_, rfl, fun j u hu => cell_alloc _ _ _ _ _ (by simp) j u (by simpa using hu)⟩) (by intro u hu; simp only [List.mem_cons, List.not_mem_nil, or_false] at hu; rcases hu with rfl | rfl <;> rfl) (by unfold maxLen; omega) (by omega) (bel_alloc HB.out _).size ?_); intro v1 w5 ho5 hg5 hv5; have HO5 := Lib.hid ho5; have HB5 := Lib.hid (bel_grown (bel_alloc HB.out _) hg5 (fun j e => (HO.out.lt j e).1)); clear ho5 hg5 hv5) | fail)
        go_roundw
        case rel =>
          have e1 : liveK p0 r.cache (k + 1) = liveK p0 r.cache k ++ [s] := by simp only [liveK]; rw [if_pos HLV.out, HSE.out]
          refine ⟨k + 1, q + 1, by omega, by omega, by go_num, Lib.hid ?_, Lib.hid ?_, HB5⟩
          · rw [e1, List.length_append, ← HQ.out]; rfl
          · rw [e1, rowW_append]; exact HO5.out
        case measure => simp [intOf]; omega
      | false =>
        have HLV := Lib.hid hlive
        unfold liveQ at hlive
        go_wp2
        go_roundw
        case rel =>
          have e1 : liveK p0 r.cache (k + 1) = liveK p0 r.cache k := by simp only [liveK]; rw [HLV.out, if_neg (by decide), List.append_nil]
          refine ⟨k + 1, q, by omega, by omega, by go_num, Lib.hid ?_, Lib.hid ?_, HB⟩
          · rw [e1]; exact HQ.out
          · rw [e1]; exact HO.out
        case measure => simp [intOf]; omega
    · obtain rfl : k = m := by omega
      obtain ⟨lv, hlv⟩ : ∃ l, l = liveK p0 r.cache k := ⟨_, rfl⟩
      have hlvm : ∀ s, s ∈ lv → s ∈ r.cache := fun s hs => liveK_mem (by rw [← HM.out]; exact Nat.le_refl _) (by rw [← hlv]; exact hs)
      rw [← hlv] at HQ HO
      have ho := HO.out
      rw [HQ.out] at ho
      obtain ⟨A7, c7, rfl, hfw7⟩ := own_FW ho
      have HFW7 := Lib.hid hfw7
      have HA7 : Hid (∀ ad, A7 = some ad → paint W0 col0 (fun _ => 0) ad.block = 0) := Lib.hid (fun ad e => paint_new (ho.lt ad.block (by subst e; rfl)).1)
      have HE7 := Lib.hid (HE2.out.grow HB.out (fun _ => 0))
      have HS7 := Lib.hid (HST2.out.grow HB.out (fun _ => 0))
      have HV7 := Lib.hid (HV2.out.grow HB.out (fun _ => 0))
      have HSC : Hid (∀ s, s ∈ lv → Sec wr (paint W0 col0 (fun _ => 0)) s ∧ 0 ≤ s.at_ ∧ s.at_ < n) := Lib.hid (fun s hs => by rw [HN.out]; exact HV7.out.cd s (hlvm s hs))
      obtain ⟨n7, hn7⟩ : ∃ n, n = lv.length := ⟨_, rfl⟩
      have HN7 := Lib.hid hn7
      have hn7k : n7 ≤ k := by rw [hn7, ← HQ.out]; exact hqk
      have HLV := Lib.hid hlv
      rw [← hn7]
      obtain ⟨p1, hp1⟩ : ∃ p, p = pickK ps 1 := ⟨_, rfl⟩
      obtain ⟨p2, hp2⟩ : ∃ p, p = pickK ps 2 := ⟨_, rfl⟩
      have hpk : ∀ j, -9223372036854775808 ≤ pickK ps j ∧ pickK ps j ≤ 9223372036854775807 := fun j => by
        unfold pickK
        rw [List.getD_eq_getElem?_getD]
        cases hj : ps[j]? with
        | none => simp
        | some y => exact HPB.out y (List.mem_of_getElem? hj)
      have HPB1 : Hid (-9223372036854775808 ≤ p1 ∧ p1 ≤ 9223372036854775807) := Lib.hid (by rw [hp1]; exact hpk 1)
      have HPB2 : Hid (-9223372036854775808 ≤ p2 ∧ p2 ≤ 9223372036854775807) := Lib.hid (by rw [hp2]; exact hpk 2)
      have HP1 := Lib.hid hp1
      have HP2' := Lib.hid hp2
      clear hn7 ho hfw7 HO HQ hlvm hlv hp1 hp2 hpk
      go_upto_region 9 with fail
      clear x1
      go_cut [54] (fun s54 wx => ∃ bb : Bool, s54 = .bool bb ∧ (bb = true ↔ 0 < p1 ∧ 0 < n7) ∧ wx = wr)
      case first =>
        by_cases h2 : 0 < n7
        · have h2b : decide (0 < (n7 : Int)) = true := by simp; omega
          go_wp2_with fail
          refine (HPK.out _ HB.out 1 (by omega)).mono ?_
          rintro e w' ⟨rfl, rfl⟩
          rw [← HP1.out]
          by_cases h1 : 0 < p1
          · go_wp2
            go_meet
            exact ⟨true, rfl, ⟨fun _ => ⟨h1, h2⟩, fun _ => rfl⟩, rfl⟩
          · have h3 : decide (0 < p1) = false := by simp; omega
            go_wp2
            go_meet
            exact ⟨false, rfl, ⟨fun h => (by cases h), fun h => absurd h.1 (by omega)⟩, rfl⟩
        · have h3 : decide (0 < (n7 : Int)) = false := by simp; omega
          go_wp2
          go_meet
          exact ⟨false, rfl, ⟨fun h => (by cases h), fun h => absurd h.2 h2⟩, rfl⟩
      case rest =>
        obtain ⟨bb, rfl, hbb, e⟩ := hcut
        cases e
        have HBB := Lib.hid hbb
        clear hbb
        go_upto_if 54 with fail
        go_cut [8] (fun s8 wx => s8 = .int .i64 (tornK p1 n7) ∧ wx = wr)
        case first =>
          cases bb with
          | true =>
            have h12 := HBB.out.1 rfl
            obtain ⟨h1, h2⟩ := h12
            have hr := rround_any p1 (n7 : Int)
            have HRR := Lib.hid (fun W => hr W HPB1.out.1 HPB1.out.2 (by omega) (by omega))
            clear hr
            go_wp2_with fail
            refine (HPK.out _ HB.out 1 (by omega)).mono ?_
            rintro e w' ⟨rfl, rfl⟩
            rw [← HP1.out]
            go_wp2_with fail
            refine (HRR.out _).mono ?_
            rintro e w' ⟨rfl, rfl⟩
            go_wp2
            go_meet
            refine ⟨int_eq ?_, rfl⟩
            unfold tornK
            rw [if_pos ⟨h1, h2⟩]
          | false =>
            have h12 : ¬ (0 < p1 ∧ 0 < n7) := fun h => by have := HBB.out.2 h; cases this
            have H12 := Lib.hid h12
            clear h12
            go_wp2
            go_meet
            refine ⟨int_eq ?_, rfl⟩
            unfold tornK
            rw [if_neg H12.out]
        case rest =>
          obtain ⟨rfl, e⟩ := hcut
          cases e
          obtain ⟨tn, htn⟩ : ∃ t, t = tornK p1 n7 := ⟨_, rfl⟩
          have HTN := Lib.hid htn
          rw [← htn]
          obtain ⟨t, ht⟩ : ∃ t : Nat, (t : Int) = p2 % 65 := ⟨(p2 % 65).toNat, by omega⟩
          have ht64 : t ≤ 64 := by omega
          have HTT := Lib.hid ht
          generalize paint W0 col0 (fun _ => 0) = col7 at *
          obtain ⟨W8, hW8⟩ : ∃ W, W = wr := ⟨_, rfl⟩
          have HE8 : Hid (RefV W8 col7 id2 gm2 (.slice (some ⟨gn, 0, none⟩) n cn) (.slice none 0 0) (rcrashK r r.safe)) := by rw [hW8]; exact HE7
          have HFW8 : Hid (FW W8 A7 c7 lv) := by rw [hW8]; exact HFW7
          have HS8 : Hid (Step id2 w col W8 col7) := by rw [hW8]; exact HS7
          have HSC8 : Hid (∀ s, s ∈ lv → Sec W8 col7 s ∧ 0 ≤ s.at_ ∧ s.at_ < n) := by rw [hW8]; exact HSC
          have HPK8 : Hid (∀ (W : World) (col' : Nat → Nat), Step id2 W8 col7 W col' → ∀ j : Nat, j ≤ 1000 → Calls Try.prog 66 #[.slice A np c, .int .i64 j] W fun e w' => e = .returned (.int .i64 (pickK ps j)) ∧ W = w') := Lib.hid (fun W col' st j hj => by
            rw [HNP.out]
            exact rpick_any A c ps j W (HP2.out _ _ (HS8.out.trans st)) hj)
          rw [← hW8]
          clear htn ht hW8 HE7 HFW7 HS7 HSC HPK HE2 HV7 HV2 HB
          go_wp2
          go_loopw [9, 10, 11, 12] (fun u9 u10 u11 u12 w' => ∃ (k : Nat) (f : Nat → Option Wr) (col' : Nat → Nat), k ≤ n7 ∧ u9 = .int .i64 k ∧ Hid (Step id2 W8 col7 w' col') ∧ Hid (RefV w' col' id2 gm2 (.slice (some ⟨gn, 0, none⟩) n cn) (.slice none 0 0) (rcrashK r f)) ∧ Hid (∀ i : Nat, secB (f i) = crashB tn t (fun i => secB (r.safe i.toNat)) lv k i)) (fun u9 _ _ _ _ => n7 - (intOf u9).toNat)
          case atStart => exact ⟨0, r.safe, col7, by omega, rfl, Lib.hid (Step.refl _ _ _), HE8, Lib.hid (fun i => by simp [crashB])⟩
          case round =>
            obtain ⟨k, f, colr, hk, rfl, HST, HE, HC⟩ := hrel
            by_cases hlt : k < n7
            · obtain ⟨s, hs⟩ : ∃ s, s = elB lv k := ⟨_, rfl⟩
              have hs2 : lv[k]? = some s := by rw [hs, elB, List.getD_eq_getElem?_getD, List.getElem?_eq_getElem (by rw [← HN7.out]; exact hlt)]; rfl
              have hsm := HSC8.out s (List.mem_of_getElem? hs2)
              obtain ⟨g7, e7, ha0, ha1⟩ := HFW8.out.at_ k s hs2
              have hg7l : g7 < W8.heap.size := World.block_lt_of_cell? _ _ ha0
              have hkb : wr.heap[g7]? = W8.heap[g7]? := HST.out.keeps.block g7 hg7l (by rw [HA7.out _ e7]; exact fun e => hid e.symm)
              have hb0 := (World.cell?_of_block (a := ⟨g7, k * 2, none⟩) hkb).trans ha0
              have hb1 := (World.cell?_of_block (a := ⟨g7, k * 2 + 1, none⟩) hkb).trans ha1
              subst e7
              have hsec := hsm.1.step HST.out hid
              have hs64 : s.b.length = 64 := hsec.2.2
              rw [hs64] at hb1
              obtain ⟨j, hj⟩ : ∃ j : Nat, s.at_ = (j : Int) := ⟨s.at_.toNat, by omega⟩
              rw [hj] at hb0
              have hjn : j < n := by omega
              have hso : wr.ownsRow 0 22 1 (.slice (some ⟨gn, 0, none⟩) n cn) n (rowS f n) := by
                have := HE.out.so
                rw [show (rcrashK r f).n = n from HN.out.symm] at this
                exact this
              obtain ⟨_, _, e1, -, -, hcell, hfr⟩ := own_FS hso hnl.1
              cases e1
              have c1 := hcell j hjn
              have f1 := hfr j
              have c0 : wr.cell? ⟨gm2, 0, none⟩ = some (.slice (some ⟨gn, 0, none⟩) n cn) := by rw [cell_of_row _ _ 0 _ _ _ HE.out.obj]; rfl
              have HCS : Hid (∀ X, Below wr.heap.size wr X → X.cell? ⟨gm2, 0, none⟩ = some (.slice (some ⟨gn, 0, none⟩) n cn) ∧ X.cell? ⟨gn, j, none⟩ = some (sval (f j)) ∧ X.cell? ⟨g7, k * 2, none⟩ = some (.int .i64 (j : Int)) ∧ X.cell? ⟨g7, k * 2 + 1, none⟩ = some (.slice s.A 64 s.c)) := Lib.hid (fun X hX => ⟨(hX.cell (World.block_lt_of_cell? _ _ c0)).trans c0, (hX.cell (World.block_lt_of_cell? _ _ c1)).trans c1, (hX.cell (World.block_lt_of_cell? _ _ hb0)).trans hb0, (hX.cell (World.block_lt_of_cell? _ _ hb1)).trans hb1⟩)
              have HSEC := Lib.hid hsec
              have HSE := Lib.hid hs
              have HJ := Lib.hid hj
              have HS64 := Lib.hid hs64
              have HOLD : Hid (∀ q, f j = some q → Sec wr colr q) := Lib.hid (fun q hq => HE.out.sd j q hq)
              have svA := hsec.1
              rw [hs64] at svA
              have HSVA := Lib.hid svA
              obtain ⟨o, ho⟩ : ∃ o, o = f j := ⟨_, rfl⟩
              rw [← ho] at c1 HCS HOLD
              have HO := Lib.hid ho
              clear hs hs2 hsm ha0 ha1 hg7l hkb hsec hs64 hj hso hcell hfr ho svA
              go_upto_if 73 with fail
              go_cut [10] (fun s10 wx => ∃ (A' : Option Addr) (c' : Nat) (bs : List UInt8), s10 = .slice A' 64 c' ∧ Hid (SV A' 64 c') ∧ Hid (bs.length = 64) ∧ Hid (bs = if (k : Int) = tn then s.b.take t ++ (secB o).drop t else s.b) ∧ Hid (RC wx (paint wr colr (fun _ => 0)) 0 A' bs) ∧ Hid (Below wr.heap.size wr wx))
              case first =>
                by_cases hkt : (k : Int) = tn
                · have hmt2 : ((k : Int) == tn) = true := by simp [hkt]
                  have HMT := Lib.hid hkt
                  clear hkt
                  go_upto_region 16 with fail
                  go_quiet (fail)
                  have hbq : Below wr.heap.size wr (wr.drewN nq) := bel_drewN (Below.refl _ _) nq
                  have HBQ := Lib.hid hbq
                  clear hbq
                  have hoA : ∀ q, o = some q → ∃ ad, q.A = some ad := fun q hq => by
                    have hsq := HOLD.out q hq
                    cases e : q.A with
                    | none => have h1 := hsq.1.2 e; have h2 := hsq.1.1; have h3 := hsq.2.2; omega
                    | some ad => exact ⟨ad, rfl⟩
                  have HOA := Lib.hid hoA
                  obtain ⟨bb, hbb⟩ : ∃ bb : Bool, bb = o.isNone := ⟨_, rfl⟩
                  have hnil : ∀ w : World, (binOp .eql 22 (sval o) (.slice none 0 0)).run Try.prog w = .ok (.bool bb) w := fun W => by
                    rw [hbb]
                    cases e : o with
                    | none => rfl
                    | some q =>
                      obtain ⟨ad, hA⟩ := hoA q e
                      rw [show sval (some q) = .slice (some ad) q.b.length q.c by show Value.slice q.A q.b.length q.c = _; rw [hA]]
                      rfl
                  have hgd : ∀ w : World, (eqGuard BinOp.eql 22 (Operand.tmp 85) (Operand.const (Value.slice none 0 0)) (sval o) (.slice none 0 0)).run Try.prog w = .ok () w := fun W => by cases o <;> rfl
                  have HBBQ := Lib.hid hbb
                  clear hbb hoA
                  go_upto_if 86 with fail
                  go_cut [11] (fun s11 wx => ∃ (A2 : Option Addr) (c2 : Nat), s11 = .slice A2 64 c2 ∧ Hid (SV A2 64 c2) ∧ Hid (RB wx A2 (secB o)) ∧ Hid ((secB o).length = 64) ∧ Hid (Below wr.heap.size wr wx))
                  case first =>
                    cases hb2 : bb with
                    | true =>
                      have ho2 : o = none := by
                        have h1 := HBBQ.out
                        rw [hb2] at h1
                        cases o with
                        | none => rfl
                        | some q => cases h1
                      have HON := Lib.hid ho2
                      go_wp2_with (first | (at_make; go_loud (refine wp_make rfl _ _ 22 5 rfl Try.underlying22 info5 _ _ 64 rfl rfl (by omega) ?_); intro w1 ho hb; have HO1 := Lib.hid ho; have HB := Lib.hid hb; clear ho hb) | fail)
                      go_meet
                      obtain ⟨A1, k1, e1, sv1, rb1⟩ := HO1.out.reads
                      rw [List.length_replicate] at e1 sv1
                      cases e1
                      exact ⟨_, _, rfl, Lib.hid sv1, Lib.hid (by rw [HON.out]; exact rb1), Lib.hid (by rw [HON.out]; exact List.length_replicate ..), Lib.hid (bel_then HBQ.out HB.out)⟩
                    | false =>
                      obtain ⟨q, hq⟩ : ∃ q, o = some q := by
                        have h1 := HBBQ.out
                        rw [hb2] at h1
                        cases o with
                        | none => cases h1
                        | some q => exact ⟨q, rfl⟩
                      have HQQ := Lib.hid hq
                      have hsq := HOLD.out q hq
                      have hsv2 : sval o = .slice q.A 64 q.c := by rw [hq]; show Value.slice q.A q.b.length q.c = _; rw [hsq.2.2]
                      have HSQ := Lib.hid hsq
                      clear hq hsq
                      go_wp2
                      go_meet
                      refine ⟨q.A, q.c, hsv2, Lib.hid (by have := HSQ.out.1; rw [HSQ.out.2.2] at this; exact this), Lib.hid (by rw [HQQ.out]; exact HSQ.out.2.1.read.below HBQ.out), Lib.hid (by rw [HQQ.out]; exact HSQ.out.2.2), HBQ⟩
                  case rest =>
                    obtain ⟨A2, c2, rfl, SV2, RB2, HL2, HB2⟩ := hcut
                    obtain ⟨ad2, rfl⟩ : ∃ ad, A2 = some ad := by
                      cases A2 with
                      | none => have h1 := SV2.out.1; have h2 := SV2.out.2 rfl; omega
                      | some ad => exact ⟨ad, rfl⟩
                    have hrr := fun W => rround_any p2 65 W HPB2.out.1 HPB2.out.2 (by omega) (by omega)
                    rw [← HTT.out] at hrr
                    have HRR := Lib.hid hrr
                    clear hrr hnil hgd
                    go_wp2_with fail
                    refine (HPK8.out _ _ (HST.out.grow HB2.out (fun _ => 0)) 2 (by omega)).mono ?_
                    rintro e w' ⟨rfl, rfl⟩
                    rw [← HP2'.out]
                    go_wp2_with fail
                    refine (HRR.out _).mono ?_
                    rintro e w' ⟨rfl, rfl⟩
                    go_upto_region 20 with fail
                    obtain ⟨V, hV⟩ : ∃ V, V = wc.drew := ⟨_, rfl⟩
                    have hb2V : Below wr.heap.size wr V := by rw [hV]; exact bel_drew HB2.out
                    have hbcV : Below wc.heap.size wc V := by rw [hV]; exact bel_drew (Below.refl _ _)
                    obtain ⟨L1, hL1⟩ : ∃ L, L = s.b.take t := ⟨_, rfl⟩
                    obtain ⟨L2, hL2⟩ : ∃ L, L = (secB o).drop t := ⟨_, rfl⟩
                    have hl1 : L1.length = t := by rw [hL1, List.length_take, HS64.out]; omega
                    have hl2 : L2.length = 64 - t := by rw [hL2, List.length_drop, HL2.out]
                    have hr1 : RB V s.A L1 := by
                      have h1 := (HSEC.out.2.1.read.below hb2V).cut (A' := s.A) 0 t (by rw [HS64.out]; omega) (fun _ ad e => by rw [e]; unfold Addr.add; simp)
                      rw [List.drop_zero] at h1
                      rw [hL1]
                      exact h1
                    obtain ⟨a96, ha96⟩ : ∃ a96, (if c2 = t then some ad2 else some (ad2.add t)) = some a96 := by split <;> exact ⟨_, rfl⟩
                    have hr2 : RB V (some a96) L2 := by
                      have h1 := (RB2.out.below hbcV).cut (A' := some a96) t (64 - t) (by rw [HL2.out]; omega) (fun hp ad e => by
                        cases e
                        have := SV2.out.1
                        rw [← ha96, if_neg (by omega)])
                      rw [List.take_of_length_le (by rw [List.length_drop, HL2.out]; omega), ← hL2] at h1
                      exact h1
                    have b1 : t ≤ s.c := by have := HSVA.out.1; omega
                    have b2 : t ≤ c2 := by have := SV2.out.1; omega
                    have b3 : (t : Int) ≤ 64 := by omega
                    have HL1' := Lib.hid hl1
                    have HL2' := Lib.hid hl2
                    have HR1 := Lib.hid hr1
                    have HR2 := Lib.hid hr2
                    have HE1 : Hid (s.b.take t ++ (secB o).drop t = L1 ++ L2) := Lib.hid (by rw [hL1, hL2])
                    have HB2V := Lib.hid hb2V
                    clear hl1 hl2 hr1 hr2 hL1 hL2 hb2V hbcV
                    refine region_const (G := G37) (S := fun _ => True) (n := 10) (by kernel_rfl) (by kernel_rfl) rfl trivial (fun HG _ => ?_)
                    have Gns := Gns37
                    rw [← hV]
                    clear hV
                    simp only [Array.replicate_succ, Array.replicate_zero, List.push_toArray, List.nil_append, List.cons_append]
                    refine wpAnyH_take (i := 1) (v := ?_) (o_at HG 1 rfl) Gns (by kernel_rfl) (by kernel_rfl) (fun _ _ _ h => h) (Or.inl ⟨(by kernel_rfl), ?_⟩) (by first | trivial | assumption) ?_
                    rotate_left
                    · (intro w hSw; (try dsimp only at hSw); go_simp; try with_reducible rfl)
                    try simp only [Act.put, List.getElem_toArray, List.getElem_cons_zero, List.getElem_cons_succ, List.setIfInBounds_toArray, List.set_cons_zero, List.set_cons_succ]
                    refine wpAnyH_take (i := 2) (v := ?_) (o_at HG 2 rfl) Gns (by kernel_rfl) (by kernel_rfl) (fun _ _ _ h => h) (Or.inl ⟨(by kernel_rfl), ?_⟩) (by first | trivial | assumption) ?_
                    rotate_left
                    · (intro w hSw; (try dsimp only at hSw); go_simp; try with_reducible rfl)
                    try simp only [Act.put, List.getElem_toArray, List.getElem_cons_zero, List.getElem_cons_succ, List.setIfInBounds_toArray, List.set_cons_zero, List.set_cons_succ]
                    refine wpAnyH_take (i := 3) (v := ?_) (o_at HG 3 rfl) Gns (by kernel_rfl) (by kernel_rfl) (fun _ _ _ h => h) (Or.inl ⟨(by kernel_rfl), ?_⟩) (by first | trivial | assumption) ?_
                    rotate_left
                    · (intro w hSw; (try dsimp only at hSw); go_simp; try with_reducible rfl)
                    try simp only [Act.put, List.getElem_toArray, List.getElem_cons_zero, List.getElem_cons_succ, List.setIfInBounds_toArray, List.set_cons_zero, List.set_cons_succ]
                    refine wpAnyH_take (i := 5) (v := ?_) (o_at HG 5 rfl) Gns (by kernel_rfl) (by kernel_rfl) (fun _ _ _ h => h) (Or.inl ⟨(by kernel_rfl), ?_⟩) (by first | trivial | assumption) ?_
                    rotate_left
                    · (intro w hSw; (try dsimp only at hSw); go_simp; try with_reducible rfl)
                    try simp only [Act.put, List.getElem_toArray, List.getElem_cons_zero, List.getElem_cons_succ, List.setIfInBounds_toArray, List.set_cons_zero, List.set_cons_succ]
                    refine wpAnyH_take (i := 6) (v := ?_) (o_at HG 6 rfl) Gns (by kernel_rfl) (by kernel_rfl) (fun _ _ _ h => h) (Or.inl ⟨(by kernel_rfl), ?_⟩) (by first | trivial | assumption) ?_
                    rotate_left
                    · (intro w hSw; (try dsimp only at hSw); go_simp; try with_reducible rfl)
                    try simp only [Act.put, List.getElem_toArray, List.getElem_cons_zero, List.getElem_cons_succ, List.setIfInBounds_toArray, List.set_cons_zero, List.set_cons_succ]
                    refine wpAnyH_take (i := 7) (v := ?_) (o_at HG 7 rfl) Gns (by kernel_rfl) (by kernel_rfl) (fun _ _ _ h => h) (Or.inl ⟨(by kernel_rfl), ?_⟩) (by first | trivial | assumption) ?_
                    rotate_left
                    · (intro w hSw; (try dsimp only at hSw); go_simp; try with_reducible rfl)
                    try simp only [Act.put, List.getElem_toArray, List.getElem_cons_zero, List.getElem_cons_succ, List.setIfInBounds_toArray, List.set_cons_zero, List.set_cons_succ]
                    refine wpAnyH_ready (rs := [0]) (by kernel_rfl) (by simp) ?_
                    refine AllReadyH.cons (o_at HG 0 rfl) ?_ (AllReadyH.nil)
                    · intro K' hK
                      rw [if_pos (by kernel_rfl)]
                      go_simp
                      have hB : Below V.heap.size V (V.alloc (.cells #[] 5)) := bel_alloc (Below.refl _ _) _
                      refine hK.out _ _ trivial (fun _ => ?_)
                      have HO1 := Lib.hid (OB.empty V V.heap.size 5 (Nat.le_refl _) _ rfl)
                      have HB1 := Lib.hid hB
                      clear hB
                      generalize V.alloc (.cells #[] 5) = X1 at *
                      try simp only [Act.put, List.getElem_toArray, List.getElem_cons_zero, List.getElem_cons_succ, List.setIfInBounds_toArray, List.set_cons_zero, List.set_cons_succ]
                      refine wpAnyH_ready (rs := [4]) (by kernel_rfl) (by simp) ?_
                      refine AllReadyH.cons (o_at HG 4 rfl) ?_ (AllReadyH.nil)
                      · intro K' hK
                        refine step_app_bytes (by kernel_rfl) _ _ 22 rfl V.heap.size 5 Try.underlying22 info5 (.slice (some ⟨V.heap.size, 0, none⟩) 0 0) [] rfl HO1.out s.A s.c L1 (by rw [HL1'.out]; rfl) HSVA.out.2 (HR1.out.below HB1.out) (by rw [HL1'.out, List.length_nil]; omega) HB1.out.size ?_
                        intro v1 X2 ho hg hv
                        rw [List.nil_append] at ho
                        have HO2 := Lib.hid ho
                        have HB2' := Lib.hid (bel_grown HB1.out hg (fun k e => HO1.out.base_ k e))
                        clear ho hg hv
                        refine hK.out _ _ trivial (fun _ => ?_)
                        try simp only [Act.put, List.getElem_toArray, List.getElem_cons_zero, List.getElem_cons_succ, List.setIfInBounds_toArray, List.set_cons_zero, List.set_cons_succ]
                        refine wpAnyH_ready (rs := [8]) (by kernel_rfl) (by simp) ?_
                        refine AllReadyH.cons (o_at HG 8 rfl) ?_ (AllReadyH.nil)
                        · intro K' hK
                          refine step_app_bytes (by kernel_rfl) _ _ 22 rfl V.heap.size 5 Try.underlying22 info5 v1 L1 rfl HO2.out (some a96) (c2 - t) L2 (by rw [HL2'.out]; rfl) (fun e => by cases e) (HR2.out.below HB2'.out) (by rw [HL1'.out, HL2'.out]; omega) HB2'.out.size ?_
                          intro v2 X3 ho hg hv
                          have hb3 := bel_grown HB2'.out hg (fun k e => HO2.out.base_ k e)
                          obtain ⟨A5, c5, rfl, sv5, rb5⟩ := ho.reads
                          have hll : (L1 ++ L2).length = 64 := by rw [List.length_append, HL1'.out, HL2'.out]; omega
                          have hbs := ho.base_
                          rw [hll] at sv5 hbs ⊢
                          have HSV5 := Lib.hid sv5
                          have HLL := Lib.hid hll
                          have HR5 : Hid (RC X3 (paint wr colr (fun _ => 0)) 0 A5 (L1 ++ L2)) := Lib.hid ⟨rb5, fun hp ad e => paint_new (by have h1 := hbs ad.block (by rw [e]; rfl); have h2 := HB2V.out.size; omega)⟩
                          have HB5 := Lib.hid (bel_then HB2V.out hb3)
                          clear ho hg hv hb3 sv5 rb5 hll hbs
                          refine hK.out _ _ trivial (fun _ => ?_)
                          try simp only [Act.put, List.getElem_toArray, List.getElem_cons_zero, List.getElem_cons_succ, List.setIfInBounds_toArray, List.set_cons_zero, List.set_cons_succ]
                          refine wpAnyH_take (i := 9) (v := ?_) (o_at HG 9 rfl) Gns (by kernel_rfl) (by kernel_rfl) (fun _ _ _ h => h) (Or.inl ⟨(by kernel_rfl), ?_⟩) (by first | trivial | assumption) ?_
                          rotate_left
                          · (intro w hSw; (try dsimp only at hSw); go_simp; try with_reducible rfl)
                          try simp only [Act.put, List.getElem_toArray, List.getElem_cons_zero, List.getElem_cons_succ, List.setIfInBounds_toArray, List.set_cons_zero, List.set_cons_succ]
                          refine wpAnyH_done (by kernel_rfl) ?_ _
                          go_wp2
                          go_meet
                          exact ⟨A5, c5, L1 ++ L2, rfl, HSV5, HLL, Lib.hid (by rw [if_pos HMT.out, HE1.out]), HR5, HB5⟩
                · have hmt2 : ((k : Int) == tn) = false := by simp [hkt]
                  have HMT := Lib.hid hkt
                  clear hkt
                  go_wp2
                  go_meet
                  exact ⟨s.A, s.c, s.b, rfl, HSVA, HS64, Lib.hid (by rw [if_neg HMT.out]), Lib.hid (HSEC.out.2.1.recol fun k hk => paint_old hk), Lib.hid (Below.refl _ _)⟩
              case rest =>
                obtain ⟨A', c', bs, rfl, HSVN, HLN, HBN, HRN, HBWX⟩ := hcut
                obtain ⟨x0, x1, x2, x3⟩ := HCS.out _ HBWX.out
                have hE2 := HE.out.grow HBWX.out (fun _ => 0)
                obtain ⟨st3, hd3⟩ := ref_setS hE2 HN.out j ⟨(j : Int), bs, A', c'⟩ ⟨by show SV A' bs.length c'; rw [HLN.out]; exact HSVN.out, HRN.out, HLN.out⟩
                have hv3 : sval (some (⟨(j : Int), bs, A', c'⟩ : Wr)) = .slice A' 64 c' := by show Value.slice A' bs.length c' = _; rw [HLN.out]
                rw [hv3] at st3 hd3
                have HST3 := Lib.hid ((HST.out.grow HBWX.out (fun _ => 0)).trans st3)
                have HE3 := Lib.hid hd3
                have hso : wc.ownsRow 0 22 1 (.slice (some ⟨gn, 0, none⟩) n cn) n (rowS f n) := by
                  have := hE2.so
                  rw [show (rcrashK r f).n = n from HN.out.symm] at this
                  exact this
                obtain ⟨_, _, e1, -, -, -, hfr⟩ := own_FS hso hnl.1
                cases e1
                have f2 := hfr j
                have HC3 : Hid (∀ i : Nat, secB (updS f j (some ⟨(j : Int), bs, A', c'⟩) i) = crashB tn t (fun i => secB (r.safe i.toNat)) lv (k + 1) i) := Lib.hid (fun i => by
                  simp only [crashB]
                  rw [← HSE.out, HJ.out]
                  unfold updS
                  by_cases hi : i = j
                  · rw [if_pos hi, if_pos (by omega)]
                    show bs = _
                    rw [HBN.out, ← HC.out j, HO.out]
                  · rw [if_neg hi, if_neg (by omega)]
                    exact HC.out i)
                clear hE2 st3 hd3 hv3 hso hfr
                go_upto_region 21 with fail
                go_region
                go_wp2
                go_roundw
                case rel => exact ⟨k + 1, _, _, by omega, by go_num, Lib.hid (HST3.out.below (bel_drew (Below.refl _ _))), Lib.hid (HE3.out.below (bel_drew (Below.refl _ _))), HC3⟩
                case measure => simp [intOf]; omega
            · obtain rfl : k = n7 := by omega
              go_wp2
              go_ret
              refine ⟨gm2, f, colr, rfl, HS8.out.trans HST.out, ⟨_, _, HE.out⟩, fun i => ?_⟩
              rw [← HM.out, ← HP0.out, ← HLV.out, ← HN7.out, ← HP1.out, ← HTN.out, ← HP2'.out, show (p2 % 65).toNat = t by rw [← HTT.out]; rfl]
              exact HC.out i
end Go.Proofs.Ytdldclakkplliaa
