/- The walk of the document's Write. Conditions: none. -/
import Derived.Test.YtdldclakkplliaaRefRead
namespace Go.Proofs.Ytdldclakkplliaa
set_option linter.unusedVariables false
set_option linter.unusedSimpArgs false
open Go.RowKit

theorem info109 : ∃ z, (Try.prog.info? 109).map (fun i => (i.zero, i.size, i.bytes)) = some (some z, 2, 32) ∧ z.cells.size = 2 := ⟨.agg #[.int .i64 0, .slice none 0 0], by kernel_rfl, by rfl⟩
theorem own_news {w : World} {base : Nat} {e : TypeId} {size n c : Nat} {A : Option Addr} {xs : List Value} (h : w.ownsRow base e size (.slice A n c) n xs) :
    (A = none → c = 0) ∧ (0 < n → ∃ ad, A = some ad ∧ ∀ X : World, (∀ k, A = some ⟨k, 0, none⟩ → X.heap[k]? = w.heap[k]?) → ∀ (j : Nat) (u : Value), xs[j]? = some u → X.cell? (ad.add j) = some u) := by
  have h0 := h
  rcases h.2 with ⟨e1, h1⟩ | ⟨g, cap, cur, e1, hb, hh, h1, h2, h3, h4⟩
  · cases e1
    exact ⟨fun _ => rfl, fun hp => by omega⟩
  · cases e1
    refine ⟨fun e => (by cases e), fun _ => ⟨_, rfl, fun X hX j u hu => ?_⟩⟩
    have hj := (List.getElem?_eq_some_iff.1 hu).1
    rw [h.1] at hj
    rw [add0, World.cell?_of_block (w := w) (a := ⟨g, j, none⟩) (hX g rfl), World.ownsRow.cellAt h0 j hj]
    exact hu

theorem app_keep {W2 W3 : World} {v1 : Value} {n size base : Nat} {e : TypeId} {xs : List Value} {o : Obj} (h : W2.ownsRow base e size v1 n xs) {c m : Nat} (hg : (W2.alloc o).grownBy W3 (Value.ownBlock (.slice (some ⟨W2.heap.size, 0, none⟩) m c))) : W3.ownsRow base e size v1 n xs := by
  refine own_keep h fun k hk => ?_
  have h1 := (h.lt k hk).2
  refine (hg.block k ?_ ?_).trans (Below.heap_alloc _ _ _ h1)
  · have : (W2.alloc o).heap.size = W2.heap.size + 1 := Array.size_push ..
    omega
  · intro e
    cases e
    exact absurd h1 (Nat.lt_irrefl _)

theorem app_new {w W2 W3 : World} {v2 : Value} {b : List UInt8} {o : Obj} {m c : Nat} (hB : Below w.heap.size w W2) (ho : OB W3 W2.heap.size 5 v2 b) (hg : (W2.alloc o).grownBy W3 (Value.ownBlock (.slice (some ⟨W2.heap.size, 0, none⟩) m c))) (hb : b.length = 64) :
    ∃ A2 c2, v2 = .slice A2 64 c2 ∧ SV A2 64 c2 ∧ RB W3 A2 b ∧ (∀ ad, A2 = some ad → W2.heap.size ≤ ad.block) ∧ Below w.heap.size w W3 := by
  obtain ⟨A2, c2, e2, sv2, rb2⟩ := ho.reads
  rw [hb] at e2 sv2
  refine ⟨A2, c2, e2, sv2, rb2, fun ad e => ho.base_ ad.block (by rw [e2, e]; rfl), bel_grown (bel_alloc hB o) hg fun k e => ?_⟩
  cases e
  exact hB.size

theorem app_last {w W2 W3 W5 : World} {v1 v3 : Value} {m : Nat} {cache : List Wr} {at' : Int} {A2 : Option Addr} {c2 : Nat} {b : List UInt8} {o : Obj} (hm : m = cache.length) (hB : Below w.heap.size w W3) (h2 : W2.ownsRow w.heap.size 109 2 v1 m (rowW cache)) (ho : W5.ownsRow w.heap.size 109 2 v3 (m + 1) (rowW cache ++ [.int .i64 at', .slice A2 64 c2]))
    (hg : (W3.alloc o).grownBy W5 v1.ownBlock) (hb : b.length = 64) (hr : RB W3 A2 b) (hab : ∀ ad, A2 = some ad → W2.heap.size ≤ ad.block) :
    ∃ A3 c3, v3 = .slice A3 (m + 1) c3 ∧ Below w.heap.size w W5 ∧ W5.ownsRow w.heap.size 109 2 (.slice A3 (m + 1) c3) (cache.length + 1) (rowW (cache ++ [⟨at', b, A2, c2⟩])) ∧ RB W5 A2 b := by
  have e1 : rowW cache ++ [.int .i64 at', .slice A2 64 c2] = rowW (cache ++ [⟨at', b, A2, c2⟩]) := by
    rw [rowW_append]
    show _ = rowW cache ++ [.int .i64 at', .slice A2 b.length c2]
    rw [hb]
  rw [e1] at ho
  have e2 : m + 1 = (cache ++ [(⟨at', b, A2, c2⟩ : Wr)]).length := by rw [List.length_append, hm]; rfl
  have ho' := ho
  rw [e2] at ho'
  obtain ⟨A3, c3, e3, -⟩ := own_FW ho'
  rw [← e2] at e3
  refine ⟨A3, c3, e3, bel_grown (bel_alloc hB o) hg (fun k e => (h2.lt k e).1), by rw [← hm, ← e3]; exact ho, RB.keep hr fun hp ad e => ?_⟩
  have h1 := hr.lt hp ad e
  have h3 := hab ad e
  refine (hg.block _ ?_ ?_).trans (Below.heap_alloc _ _ _ h1)
  · have : (W3.alloc o).heap.size = W3.heap.size + 1 := Array.size_push ..
    omega
  · intro e4
    have := (h2.lt _ e4.symm).2
    omega

/-- What a write answers. -/
def rwriteE (r : RK) (at' : Int) (len : Nat) : Int := if (ractK r).2 ≠ 0 then (ractK r).2 else if at' < 0 ∨ (r.n : Int) ≤ at' ∨ len ≠ 64 then 1 else 0
def rwriteD (r : RK) (s : Wr) : RK := if rwriteE r s.at_ s.b.length = 0 then { (ractK r).1 with cache := r.cache ++ [s] } else (ractK r).1
theorem ract_e (r : RK) : (ractK r).2 = 0 ∨ (ractK r).2 = 7 := by unfold ractK; split <;> simp

theorem ref_add {w Y : World} {col : Nat → Nat} {id gm : Nat} {vs vc v1 : Value} {r : RK} {s : Wr} (h : RefV w col id gm vs vc r) (hk : Keeps (fun k => k = gm) w Y) (hg : Y.heap[gm]? = some (.cells (rcells r vs v1) 104 (0, 0)))
    (ho : Y.ownsRow w.heap.size 109 2 v1 (r.cache.length + 1) (rowW (r.cache ++ [s]))) (hs : SV s.A s.b.length s.c) (hrb : RB Y s.A s.b) (hlen : s.b.length = 64) (hap : ∀ ad, s.A = some ad → w.heap.size ≤ ad.block) (hat : 0 ≤ s.at_ ∧ s.at_ < r.n) :
    ∃ col', Step id w col Y col' ∧ RefV Y col' id gm vs v1 { r with cache := r.cache ++ [s] } := by
  have st : Step id w col Y (paint w col (fun _ => 0)) := Step.mk' (hk.mono fun k _ e => e ▸ h.hcol)
  have hgl := h.lt
  refine ⟨_, st, ⟨(paint_old hgl).trans h.hcol, h.nz, hg, own_keep h.so fun k hk2 => hk.block k (h.so.lt k hk2).2 (h.sb k hk2).1, ?_, fun k hk2 => ⟨(h.sb k hk2).1, (paint_old (h.so.lt k hk2).2).trans (h.sb k hk2).2⟩, fun k hk2 => paint_new (ho.lt k hk2).1, fun i q hq => (h.sd i q hq).step st h.nz, fun q hq => ?_, h.dom⟩⟩
  · rw [List.length_append]; exact own_mono ho (Nat.zero_le _)
  · rcases List.mem_append.1 hq with hq | hq
    · exact ⟨(h.cd q hq).1.step st h.nz, (h.cd q hq).2⟩
    · rw [List.mem_singleton] at hq
      subst hq
      exact ⟨⟨hs, ⟨hrb, fun hp ad e => paint_new (hap ad e)⟩, hlen⟩, hat⟩

set_option maxRecDepth 100000 in
set_option maxHeartbeats 4000000 in
theorem rwrite_good (id gm : Nat) (vs vc : Value) (r0 : RK) (n : Nat) (at' : Int) (A : Option Addr) (c cl : Nat) (b : List UInt8) (w0 : World) (col : Nat → Nat) (h : RefV w0 col id gm vs vc r0) (hf : r0.fits n) (hn : n ≤ 1000000) (he : (ractK r0).2 = 0) (hr : RC w0 col cl A b) (hcl : cl ≠ id) (hsv : SV A 64 c) (hat : 0 ≤ at' ∧ at' < r0.n) (hb : b.length = 64) :
    Calls Try.prog 62 #[.pointer (some ⟨gm, 0, none⟩), .int .i64 at', .slice A 64 c] w0 fun e w' => e = .returned (.int .i64 0) ∧ ∃ col' A c v1, Step id w0 col w' col' ∧ RefV w' col' id gm vs v1 { (ractK r0).1 with cache := r0.cache ++ [⟨at', b, A, c⟩] } := by
  have hask := act_any id gm vs vc r0 n w0 col h hf (by omega)
  have HR0 := Lib.hid hr
  have HSV := Lib.hid hsv
  have HASK := Lib.hid hask
  have HBL := Lib.hid hb
  have HE := Lib.hid he
  have HSAME := Lib.hid (ract_same r0)
  have HCN := Lib.hid hf.2.2.2.2
  obtain ⟨ha0, ha1⟩ := hat
  have hz1 : decide (at' < 0) = false := by simp; omega
  have hz2 : decide ((r0.n : Int) ≤ at') = false := by simp; omega
  obtain ⟨z, hz, hzs⟩ := info109
  clear h hr hsv hask hb he hf
  go_enter Try.func62, Try.ntmps62
  go_wp2_with fail
  refine HASK.out.mono ?_
  rintro e w ⟨rfl, st0, h⟩
  rw [HE.out]
  obtain ⟨r, hr⟩ : ∃ r, r = (ractK r0).1 := ⟨_, rfl⟩
  rw [← hr] at h HSAME
  have HRR := Lib.hid hr
  have HST := Lib.hid st0
  have HV := Lib.hid h
  obtain ⟨gs, cs, rfl, -, -, -, -⟩ := own_FS h.so h.dom.1
  obtain ⟨AC, cc, rfl, -⟩ := own_FW h.co
  have hnw := own_news h.co
  have c0 : w.cell? ⟨gm, 0, none⟩ = some (.slice (some ⟨gs, 0, none⟩) r0.n cs) := by rw [cell_of_row _ _ 0 _ _ _ h.obj, ← HSAME.out.1]; rfl
  have HC1 : Hid (∀ X, Below w.heap.size w X → X.heap[gm]? = some (.cells (rcells r (.slice (some ⟨gs, 0, none⟩) r.n cs) (.slice AC r.cache.length cc)) 104 (0, 0))) := Lib.hid fun X hX => heap_below h.obj hX
  obtain ⟨m, hm⟩ : ∃ m, m = r.cache.length := ⟨_, rfl⟩
  rw [← hm] at hnw HC1
  have hml : m ≤ 1000000 := by rw [hm, HSAME.out.2.2]; have := HCN.out; omega
  have HM := Lib.hid hm
  have HNW := Lib.hid hnw
  have HNEWS : Hid (∀ X, Below w.heap.size w X → 0 < m → ∃ ad, AC = some ad ∧ ∀ j u, (rowW r.cache)[j]? = some u → X.cell? (ad.add j) = some u) := Lib.hid (fun X hX hp => by
    obtain ⟨ad, e, hh⟩ := HNW.out.2 hp
    refine ⟨ad, e, hh X fun k hk => hX.block k ?_⟩
    have := (h.co.lt k (by rw [hk]; rfl)).2
    exact this)
  have HR := Lib.hid (HR0.out.step st0 (fun e => hcl e.symm)).read
  have HRN : Hid (r.n = r0.n) := Lib.hid HSAME.out.1
  have c1 : ∀ o : Obj, (w.alloc o).cell? ⟨gm, 1, none⟩ = some (.slice AC m cc) := fun o => by rw [cell_of_row _ _ 1 _ _ _ (HC1.out _ (bel_alloc (Below.refl _ _) o))]; rfl
  have HOO : Hid ((w.alloc (.cells #[] 109)).ownsRow w.heap.size 109 2 (.slice (some ⟨w.heap.size, 0, none⟩) 0 0) 0 []) := Lib.hid (World.ownsRow_made w #[] 0 (Nat.le_refl _) (Nat.zero_le _) (by simp))
  clear h hm hr st0 hnw
  go_wp2_with (first
    | (at_builtin; go_loud (refine wp_app rfl (.tmp 30) (.tmp 34) 102 rfl w.heap.size 109 z 2 32 Try.underlying102 hz hzs (by decide) (.slice (some ⟨w.heap.size, 0, none⟩) 0 0) 0 [] rfl HOO.out AC m cc (rowW r.cache) rfl (by rw [rowW_length, HM.out]) HNW.out.1 (HNEWS.out _ (bel_alloc (Below.refl _ _) _)) (rowW_one _) (by unfold maxLen; omega) (by omega) (by simp) ?_); intro v1 W2 ho hg hv; rw [List.nil_append, Nat.zero_add] at ho; have HO2 := Lib.hid ho; have HB2 := Lib.hid (bel_grown (bel_alloc (Below.refl w.heap.size w) _) hg (fun k e => by cases e; exact Nat.le_refl _)); clear ho hg hv c1)
    | (at_builtin; go_loud (refine wp_app_bytes rfl (.tmp 37) (.tmp 38) 22 rfl W2.heap.size 5 Try.underlying22 info5 (.slice (some ⟨W2.heap.size, 0, none⟩) 0 0) [] rfl (OB.empty W2 W2.heap.size 5 (Nat.le_refl _) _ rfl) A c b (by rw [HBL.out]; rfl) HSV.out.2 (HR.out.below (bel_alloc HB2.out _)) (by rw [HBL.out]; simp) (by simp) ?_); intro v2 W3 ho hg hv; rw [List.nil_append] at ho; have HO3 := Lib.hid (app_keep HO2.out hg); obtain ⟨A2, c2, rfl, sv2, rb2, hab, hb3⟩ := app_new HB2.out ho hg HBL.out; have HB3 := Lib.hid hb3; have HAB := Lib.hid hab; have SV2 := Lib.hid sv2; have RB2 := Lib.hid rb2; clear ho hg hv sv2 rb2 hab hb3)
    | (at_builtin; go_loud (refine wp_app rfl (.tmp 35) (.tmp 41) 102 rfl w.heap.size 109 z 2 32 Try.underlying102 hz hzs (by decide) v1 m (rowW r.cache) rfl (own_keep HO3.out fun j hj => Below.heap_alloc _ _ _ (HO3.out.lt j hj).2) _ 1 _ [.int .i64 at', .slice A2 64 c2] rfl rfl (fun e => by cases e) (fun _ => ⟨_, rfl, fun j u hu => cell_alloc _ _ _ _ _ (by simp) j u (by simpa using hu)⟩) (by intro u hu; simp only [List.mem_cons, List.not_mem_nil, or_false] at hu; rcases hu with rfl | rfl <;> rfl) (by unfold maxLen; omega) (by omega) (bel_alloc HB3.out _).size ?_); intro v3 W5 ho hg hv; obtain ⟨A3, c3, rfl, hb5, ho5, rb5⟩ := app_last HM.out HB3.out HO2.out ho hg HBL.out RB2.out HAB.out; have HB5 := Lib.hid hb5; have HO5 := Lib.hid ho5; have RB5 := Lib.hid rb5; have fz := frozen_of_row _ _ 1 _ _ (HC1.out W5 HB5.out); have cz : W5.cell? ⟨gm, 1, none⟩ = some (.slice AC m cc) := (cell_of_row _ _ 1 _ _ _ (HC1.out W5 HB5.out)).trans rfl; clear ho hg hv hb5 ho5 rb5)
    | fail)
  go_ret
  have hset := row_set (j := 1) (.slice A3 (m + 1) c3) (HC1.out W5 HB5.out)
  have hgl := HV.out.lt
  obtain ⟨col', st, hd⟩ := ref_add (s := ⟨at', b, A2, c2⟩) (Y := W5.setCell ⟨gm, 1, none⟩ (.slice A3 (m + 1) c3)) HV.out (keeps_set (I := fun k => k = gm) ((Keeps.refl _ w).below HB5.out) rfl) (v1 := .slice A3 (m + 1) c3) (by simpa [rcells, HM.out] using hset) (by
      exact own_keep HO5.out fun k hk => Below.heap_setCell _ _ _ _ (fun e => by have := (HO5.out.lt k hk).1; subst e; omega)) (by rw [HBL.out]; exact SV2.out) (RB.keep RB5.out fun hp ad e => Below.heap_setCell _ _ _ _ (by show ad.block ≠ gm; have := HAB.out ad e; have := HB2.out.size; omega)) HBL.out (fun ad e => by have := HAB.out ad e; have := HB2.out.size; omega) ⟨ha0, by rw [HRN.out]; exact ha1⟩
  refine ⟨rfl, col', A2, c2, .slice A3 (m + 1) c3, HST.out.trans st, ?_⟩
  rw [HSAME.out.2.2] at hd
  rw [← HRR.out]
  exact hd
def RWriteQ (id gm : Nat) (r : RK) (at' : Int) (b : List UInt8) (w : World) (col : Nat → Nat) (e : Ending) (w' : World) : Prop :=
  e = .returned (.int .i64 (rwriteE r at' b.length)) ∧ ∃ col' A c, Step id w col w' col' ∧ RefAt w' col' id gm (rwriteD r ⟨at', b, A, c⟩)
theorem rwrite_bad (id gm : Nat) (vs vc : Value) (r0 : RK) (n : Nat) (at' : Int) (A : Option Addr) (c : Nat) (l : Nat) (w0 : World) (col : Nat → Nat) (h : RefV w0 col id gm vs vc r0) (hf : r0.fits n) (hn : n ≤ 1000000) (hb : rwriteE r0 at' l ≠ 0) :
    Calls Try.prog 62 #[.pointer (some ⟨gm, 0, none⟩), .int .i64 at', .slice A l c] w0 fun e w' => e = .returned (.int .i64 (rwriteE r0 at' l)) ∧ Step id w0 col w' col ∧ RefV w' col id gm vs vc (ractK r0).1 := by
  have hask := act_any id gm vs vc r0 n w0 col h hf (by omega)
  have HASK := Lib.hid hask
  have HSAME := Lib.hid (ract_same r0)
  rcases ract_e r0 with he | he
  · have HE := Lib.hid he
    have hbad : at' < 0 ∨ (r0.n : Int) ≤ at' ∨ l ≠ 64 := by
      unfold rwriteE at hb
      rw [if_neg (by omega)] at hb
      by_cases h : at' < 0 ∨ (r0.n : Int) ≤ at' ∨ l ≠ 64
      · exact h
      · rw [if_neg h] at hb; exact absurd rfl hb
    have HR : Hid (rwriteE r0 at' l = 1) := Lib.hid (by unfold rwriteE; rw [if_neg (by omega), if_pos hbad])
    clear h hask hf hb he
    rw [HR.out]
    go_enter Try.func62, Try.ntmps62
    go_wp2_with fail
    refine HASK.out.mono ?_
    rintro e w ⟨rfl, st0, h⟩
    rw [HE.out]
    have HST := Lib.hid st0
    have HV := Lib.hid h
    obtain ⟨gs, cs, rfl, -, -, -, -⟩ := own_FS h.so h.dom.1
    have c0 : w.cell? ⟨gm, 0, none⟩ = some (.slice (some ⟨gs, 0, none⟩) r0.n cs) := by rw [cell_of_row _ _ 0 _ _ _ h.obj, ← HSAME.out.1]; rfl
    clear h st0
    by_cases h1 : at' < 0
    · clear hbad
      go_wp2
      go_ret
      exact ⟨rfl, HST.out, HV.out⟩
    · by_cases h2 : (r0.n : Int) ≤ at'
      · clear hbad
        go_wp2
        go_ret
        exact ⟨rfl, HST.out, HV.out⟩
      · have h3 : ((l : Int) != 64) = true := by simp; omega
        clear hbad
        go_wp2
        go_ret
        exact ⟨rfl, HST.out, HV.out⟩
  · have HE := Lib.hid he
    have HR : Hid (rwriteE r0 at' l = 7) := Lib.hid (by unfold rwriteE; rw [if_pos (by omega), he])
    clear h hask hf hb he
    rw [HR.out]
    go_enter Try.func62, Try.ntmps62
    go_wp2_with fail
    refine HASK.out.mono ?_
    rintro e w ⟨rfl, st0, h⟩
    rw [HE.out]
    go_wp2
    go_ret
    exact ⟨rfl, st0, h⟩
theorem rwrite_any (id gm : Nat) (r : RK) (n : Nat) (at' : Int) (A : Option Addr) (c cl : Nat) (b : List UInt8) (w : World) (col : Nat → Nat) (h : RefAt w col id gm r) (hf : r.fits n) (hn : n ≤ 1000000) (hr : RC w col cl A b) (hcl : cl ≠ id) (hsv : SV A b.length c) :
    Calls Try.prog 62 #[.pointer (some ⟨gm, 0, none⟩), .int .i64 at', .slice A b.length c] w (RWriteQ id gm r at' b w col) := by
  obtain ⟨vs, vc, h⟩ := h
  by_cases hb : rwriteE r at' b.length = 0
  · have he : (ractK r).2 = 0 := by
      unfold rwriteE at hb
      rcases ract_e r with h0 | h0
      · exact h0
      · rw [if_pos (by omega)] at hb; exact hb
    have hok : ¬ (at' < 0 ∨ (r.n : Int) ≤ at' ∨ b.length ≠ 64) := by
      intro h0
      unfold rwriteE at hb
      rw [if_neg (by omega), if_pos h0] at hb
      cases hb
    have h64 : b.length = 64 := by omega
    rw [h64] at hsv
    have h1 := rwrite_good id gm vs vc r n at' A c cl b w col h hf hn he hr hcl hsv ⟨by omega, by omega⟩ h64
    have e64 : Value.slice A b.length c = .slice A 64 c := by rw [h64]
    rw [e64]
    refine h1.mono ?_
    rintro e w' ⟨rfl, col', A', c', v1, st, hd⟩
    refine ⟨by rw [hb], col', A', c', st, ?_⟩
    unfold rwriteD
    rw [if_pos hb]
    exact ⟨_, _, hd⟩
  · refine (rwrite_bad id gm vs vc r n at' A c b.length w col h hf hn hb).mono ?_
    rintro e w' ⟨rfl, st, hd⟩
    refine ⟨rfl, col, none, 0, st, ?_⟩
    unfold rwriteD
    rw [if_neg hb]
    exact ⟨_, _, hd⟩
end Go.Proofs.Ytdldclakkplliaa
