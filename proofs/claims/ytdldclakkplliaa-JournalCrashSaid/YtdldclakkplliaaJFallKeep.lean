/- A journal on a disk whose power may go: the contracts, and what the walk of JournalCrash keeps. Conditions: none. -/
import Derived.Test.YtdldclakkplliaaJFall
import Derived.Test.YtdldclakkplliaaJBook
import Derived.Test.YtdldclakkplliaaJAwake
import Derived.Test.YtdldclakkplliaaSteps
namespace Go.Proofs.Ytdldclakkplliaa
set_option linter.unusedVariables false
set_option linter.unusedSimpArgs false
open Go.RowKit

structure JQ (w : World) (col : Nat → Nat) (id idj gd mb gj a : Nat) (d : DK) (j : JK) : Prop where
  disk : DiskAt w col id gd mb d
  jr : JAt w col idj gj gd j
  quiet : Quiet d a
  inv : Held d j.half j.number j.base.b (j.recs.map (·.b)) j.endp
  oth : Oth (vw d) (d.n / 2) j.half j.number
  dead : j.dead = false
theorem JQ.path {J : Nat → Prop} {w w' : World} {col col' : Nat → Nat} {id idj gd mb gj a : Nat} {d : DK} {j : JK} (h : JQ w col id idj gd mb gj a d j) (p : Path J w col w' col') (hJ : ∀ i, J i → i ≠ 0 ∧ i ≠ id ∧ i ≠ idj) : JQ w' col' id idj gd mb gj a d j :=
  ⟨h.disk.path p fun i hi => ⟨(hJ i hi).1, (hJ i hi).2.1⟩, h.jr.path p fun i hi => ⟨(hJ i hi).1, (hJ i hi).2.2⟩, h.quiet, h.inv, h.oth, h.dead⟩
theorem JQ.grow {w w' : World} {col : Nat → Nat} {id idj gd mb gj a : Nat} {d : DK} {j : JK} (h : JQ w col id idj gd mb gj a d j) (hb : Below w.heap.size w w') (new : Nat → Nat) : JQ w' (paint w col new) id idj gd mb gj a d j :=
  ⟨h.disk.grow hb new, h.jr.grow hb new, h.quiet, h.inv, h.oth, h.dead⟩
theorem JQ.more {w : World} {col : Nat → Nat} {id idj gd mb gj a b : Nat} {d : DK} {j : JK} (h : JQ w col id idj gd mb gj a d j) (hab : a ≤ b) : JQ w col id idj gd mb gj b d j := ⟨h.disk, h.jr, h.quiet.more hab, h.inv, h.oth, h.dead⟩
/-- What a disk of a thousand sectors shows to who opens a journal on it. -/
def Shown (g : Nat → List UInt8) (base : List UInt8) (ls : List (List UInt8)) : Prop := ∃ half num endp, HInv g 500 half num base ls endp ∧ num ≤ 1000 ∧ endp ≤ 20000
theorem crash_quiet {d : DK} {g : Nat → List UInt8} (h : CrashOf d g) (hc : d.cache = []) : g = vw d := by
  obtain ⟨tn, t, lv, ht, hm, hl, ho⟩ := h
  rw [hc] at hl
  have : lv = [] := List.eq_nil_of_length_eq_zero (by simpa using hl)
  subst this
  funext i
  rw [ho]
  show secB (d.safe i) = secB ((lastW d.cache (i : Int)).or (d.safe i))
  rw [hc]
  rfl
theorem JQ.shown {w : World} {col : Nat → Nat} {id idj gd mb gj a : Nat} {d : DK} {j : JK} (h : JQ w col id idj gd mb gj a d j) (hn : d.n = 1000) (hnum : j.number ≤ 1000) (he : j.endp ≤ 20000) {g : Nat → List UInt8} (hg : CrashOf d g) : Shown g j.base.b (j.recs.map (·.b)) := by
  have hi := h.inv
  unfold Held at hi
  rw [crash_quiet hg h.quiet.cache]
  rw [hn] at hi
  exact ⟨_, _, _, hi, hnum, he⟩
theorem JQ.gone {w : World} {col : Nat → Nat} {id idj gd mb gj a : Nat} {d : DK} {j : JK} (h : JQ w col id idj gd mb gj a d j) (hn : d.n = 1000) : Gone d 1000 a := ⟨hn, h.quiet.fits, by rw [h.quiet.cache]; simpa using h.quiet.m⟩
/-- A step, wherever the power goes. -/
def DoesFall (id idj gd mb gj a : Nat) (d : DK) (j : JK) (sk n k : Int) (w : World) (col : Nat → Nat) (e : Ending) (w' : World) : Prop :=
  ∃ (x : Int) (d' : DK) (j' : JK) (col' : Nat → Nat), e = .returned (.int .i64 x) ∧ Path (Two id idj) w col w' col' ∧
    ((x = 0 ∧ JQ w' col' id idj gd mb gj (a + 1000) d' j' ∧ d'.n = 1000 ∧ j'.number ≤ j.number + 1 ∧ j'.endp ≤ j.endp + 400 ∧ j'.base.b = (doneB sk n k j.base.b (j.recs.map (·.b))).1 ∧ j'.recs.map (·.b) = (doneB sk n k j.base.b (j.recs.map (·.b))).2) ∨
     (x = 7 ∧ DiskAt w' col' id gd mb d' ∧ JAt w' col' idj gj gd j' ∧ j'.dead = true ∧ Gone d' 1000 (a + 1000) ∧
       ∀ g, CrashOf d' g → Shown g j.base.b (j.recs.map (·.b)) ∨ Shown g (doneB sk n k j.base.b (j.recs.map (·.b))).1 (doneB sk n k j.base.b (j.recs.map (·.b))).2))
theorem does_jq (id idj gd mb gj a : Nat) (d : DK) (j : JK) (sk n k : Int) (w : World) (col : Nat → Nat) (h : JQ w col id idj gd mb gj a d j) (h0 : id ≠ 0) (hidj : idj ≠ 0) (hne : id ≠ idj) (ha : a ≤ 400000) (hnum : j.number ≤ 900) (hwn : -9223372036854775808 ≤ n ∧ n ≤ 9223372036854775807) (hn : d.n = 1000) (he : 64 ≤ j.endp ∧ j.endp ≤ 19000) (hrl : j.recs.length ≤ 1000000) :
    Calls Try.prog 23 #[.pointer (some ⟨gj, 0, none⟩), .agg #[.int .i64 sk, .int .i64 n, .int .i64 k]] w (DoesFall id idj gd mb gj a d j sk n k w col) := by
  have hB := datB_le n k
  have hpl := placeN_le j.endp
  refine (jdoes_any id idj gd mb gj d j a sk n k w col h.disk h.jr h0 hidj hne h.quiet.fits ha (by rw [h.quiet.cache]; simpa using h.quiet.m) h.quiet.dom.1 h.inv.hh (by omega) h.inv.fit hrl h.dead hwn).mono ?_
  rintro e w' ⟨x, d', j', col', rfl, p, h1, h2, h3⟩
  have hfd : ∀ q : JK, (failJ q 7).dead = true := fun q => by unfold failJ; simp
  rcases h3 with ⟨hk, h3⟩ | ⟨hk, h3⟩ | ⟨hk1, hk2, rfl, rfl, rfl⟩
  · have e1 : doneB sk n k j.base.b (j.recs.map (·.b)) = (j.base.b, j.recs.map (·.b) ++ [datB n k]) := by unfold doneB; rw [if_pos hk]
    rcases append_fall h.quiet h.inv h.oth (by omega) h3 with ⟨-, c1, -, -⟩ | ⟨rfl, c1, c2, c3, c4, c5, c6, c7, c8, c9, c10, c11⟩ | ⟨rfl, c1, c2, rfl, c4⟩
    · exfalso
      unfold roomN at c1
      omega
    · exact ⟨0, d', j', col', rfl, p, .inl ⟨rfl, ⟨h1, h2, c2.more (by omega), c9, c10, c7.trans h.dead⟩, by omega, by omega, by omega, by rw [e1, c6], by rw [e1, c11]⟩⟩
    · refine ⟨7, d', _, col', rfl, p, .inr ⟨rfl, h1, h2, hfd _, by rw [hn] at c2; exact c2.more (by omega), fun g hg => ?_⟩⟩
      rw [e1]
      rw [hn] at c4
      rcases c4 g hg with c5 | c5
      · exact .inl ⟨_, _, _, c5, by omega, by omega⟩
      · exact .inr ⟨_, _, _, c5, by omega, by omega⟩
  · have e1 : doneB sk n k j.base.b (j.recs.map (·.b)) = (datB n k, []) := by unfold doneB; rw [if_neg (by omega), if_pos hk]
    rcases reset_fall h.quiet h.inv h.oth (by omega) (by omega) h3 with ⟨-, c1, -, -⟩ | ⟨rfl, c1, c2, c3, c4, c5, c6, c7, c8, c9, c10, c11⟩ | ⟨rfl, c1, c2, rfl, c4⟩
    · exfalso
      omega
    · exact ⟨0, d', j', col', rfl, p, .inl ⟨rfl, ⟨h1, h2, c2.more (by omega), c9, c10, c7.trans h.dead⟩, by omega, by omega, by omega, by rw [e1, c6], by rw [e1, c11]; rfl⟩⟩
    · refine ⟨7, d', _, col', rfl, p, .inr ⟨rfl, h1, h2, hfd _, by rw [hn] at c2; exact c2.more (by omega), fun g hg => ?_⟩⟩
      rw [e1]
      rw [hn] at c4
      rcases c4 g hg with c5 | c5
      · exact .inl ⟨_, _, _, c5, by omega, by omega⟩
      · exact .inr ⟨_, _, _, c5, by omega, by omega⟩
  · have e1 : doneB sk n k j'.base.b (j'.recs.map (·.b)) = (j'.base.b, j'.recs.map (·.b)) := by unfold doneB; rw [if_neg hk1, if_neg hk2]
    exact ⟨0, d', j', col', rfl, p, .inl ⟨rfl, ⟨h1, h2, h.quiet.more (by omega), h.inv, h.oth, h.dead⟩, hn, by omega, by omega, by rw [e1], by rw [e1]⟩⟩
/-- A disk that is dropped, whatever was on its way. -/
theorem crash_gone (id id2 gd mb a n : Nat) (d : DK) (A : Option Addr) (c : Nat) (ps : List Int) (w : World) (col : Nat → Nat) (h : DiskAt w col id gd mb d) (hp2 : ∀ (w' : World) (col' : Nat → Nat), Step id2 w col w' col' → RI w' A ps) (hid : id2 ≠ 0) (hne : id2 ≠ id) (hc : Gone d n a) (hn : 8 ≤ n ∧ n ≤ 65536) (ha : a ≤ 1000000) (hpb : ∀ x ∈ ps, -9223372036854775808 ≤ x ∧ x ≤ 9223372036854775807) :
    Calls Try.prog 20 #[.pointer (some ⟨gd, 0, none⟩), .slice A ps.length c] w fun e w' => ∃ gd2 mb2 d2 col', e = .returned (.pointer (some ⟨gd2, 0, none⟩)) ∧ Step id2 w col w' col' ∧ DiskAt w' col' id2 gd2 mb2 d2 ∧ Calm d2 a ∧ d2.n = n ∧ CrashOf d (vw d2) := by
  obtain ⟨v, hv⟩ := h
  have hm := hc.m
  refine (crash_walk id id2 gd mb v d A c ps w col hv hp2 hid hne (by omega) (by omega) hpb).mono ?_
  rintro e w' ⟨gd2, mb3, f, col', rfl, st, h2, hf⟩
  have hl := liveK_len (pickK ps 0) d.cache d.cache.length
  refine ⟨gd2, mb3, _, col', rfl, st, h2, ⟨⟨rfl, rfl⟩, rfl, by show 8 ≤ d.n ∧ d.n ≤ 65536; rw [hc.n]; exact hn, ⟨by show -(a : Int) ≤ 0; omega, by show (0 : Int) ≤ _; omega, Int.le_refl _, by show (0 : Int) ≤ a; omega, Nat.zero_le _⟩, by show d.m + _ ≤ a; omega⟩, hc.n, ?_⟩
  exact ⟨_, _, _, by omega, fun s hs => liveK_mem (Nat.le_refl _) hs, hl, fun i => hf (i : Int)⟩
theorem append_dead (gj gd : Nat) (vr : Value) (j : JK) (w : World) (hg : w.heap[gj]? = some (.cells (jcells j gd vr) 81 (0, 0))) (hd : j.dead = true) :
    Calls Try.prog 17 #[.pointer (some ⟨gj, 0, none⟩), .slice none 0 0] w fun e w' => e = .returned (.int .i64 7) ∧ w = w' := by
  have HDEAD := Lib.hid (hd ▸ dead_any gj gd vr j w hg)
  clear hg
  go_enter Try.func17, Try.ntmps17
  go_wp2_with fail
  refine HDEAD.out.mono ?_
  rintro e w' ⟨rfl, rfl⟩
  go_wp2
  go_ret
  exact ⟨rfl, rfl⟩
/-- A disk that is dropped behind an Open, with nothing on its way. -/
theorem vw_cut (d : DK) (n : Int) : vw (cutK d n) = vw d := rfl
theorem cut_gone {d : DK} {n a : Nat} {k : Int} (h : Calm d a) (hn : d.n = n) (hk : k ≤ 9223372036854775807) : Gone (cutK d k) n a := by
  obtain ⟨f1, f2, f3, f4, f5⟩ := h.fits
  refine ⟨hn, ⟨?_, ?_, f3, f4, f5⟩, ?_⟩
  · show -(a : Int) ≤ if k < 0 then 0 else k
    split <;> omega
  · show (if k < 0 then 0 else k) ≤ _
    split <;> omega
  · have := h.m
    show d.m + d.cache.length ≤ a
    rw [h.cache]
    simpa using this
theorem Keeps.row (w : World) (g : Nat) (cs : Array Value) : Keeps (fun k => k = g) w (w.setRow g cs) :=
  ⟨rfl, rfl, rfl, by rw [setRow_size]; exact Nat.le_refl _, fun k _ hk => setRow_other w g k cs hk⟩
theorem Step.row {w : World} {col : Nat → Nat} {g id : Nat} (hc : col g = id) (cs : Array Value) : Step id w col (w.setRow g cs) col :=
  ⟨(Keeps.row w g cs).mono fun k _ e => e ▸ hc, fun _ _ => rfl⟩
theorem Bk.two {w : World} {col : Nat → Nat} {v : Value} {base : List UInt8} {ls : List (List UInt8)} (h : Bk w col v base ls) : ∃ x y, v = .agg #[x, y] := by
  obtain ⟨Ab, cb, Al, n, cl, rs, rfl, -⟩ := h
  exact ⟨_, _, rfl⟩
theorem Bk.one {w : World} {col : Nat → Nat} {x y : Value} {base : List UInt8} {ls : List (List UInt8)} (h : Bk w col (.agg #[x, y]) base ls) : #[x, y].all (·.oneCell') = true := by
  obtain ⟨Ab, cb, Al, n, cl, rs, e, -⟩ := h
  cases e
  simp [Value.oneCell']
theorem box_kept {w w' : World} {col col' : Nat → Nat} {J : Nat → Prop} {gb : Nat} {o : Obj} (h : w.heap[gb]? = some o) (hc : col gb = 3) (p : Path J w col w' col') (hJ : ∀ i, J i → i ≠ 3) : w'.heap[gb]? = some o ∧ col' gb = 3 := by
  have hlt := (Array.getElem?_eq_some_iff.1 h).1
  have := p.kept hlt (fun i hi => by rw [hc]; exact hJ i hi)
  exact ⟨this.1.trans h, this.2.1.trans hc⟩
theorem shows_bk {w : World} {col : Nat → Nat} {id idj gd mb gj a : Nat} {d : DK} {j : JK} (h : JS w col id idj gd mb gj a d j) {v : Value} {base : List UInt8} {ls : List (List UInt8)} (hb : Bk w col v base ls) (hl : ls.length ≤ 1000000) :
    Calls Try.prog 21 #[.pointer (some ⟨gj, 0, none⟩), v] w fun e w' => e = .returned (.bool (decide (j.base.b = base ∧ j.recs.map (·.b) = ls))) ∧ Below w.heap.size w w' := by
  obtain ⟨Ab, cb, Al, n, cl, rs, rfl, h2, h3, h4, rfl⟩ := hb
  rw [List.length_map] at hl
  have hs := shows_js h Ab Al cb cl base (rs.map (·.b)) h2.read (h4.rl (by omega))
  rw [List.length_map, ← h4.len] at hs
  exact hs
/-- Two books in their blocks. -/
structure BX (wr : World) (col : Nat → Nat) (g1 g2 : Nat) (x1 y1 x2 y2 : Value) (base1 : List UInt8) (ls1 : List (List UInt8)) (base2 : List UInt8) (ls2 : List (List UInt8)) : Prop where
  box1 : wr.heap[g1]? = some (.cells #[x1, y1] 39 (0, 0))
  box2 : wr.heap[g2]? = some (.cells #[x2, y2] 39 (0, 0))
  col1 : col g1 = 3
  col2 : col g2 = 3
  ne : g1 ≠ g2
  bk1 : Bk wr col (.agg #[x1, y1]) base1 ls1
  bk2 : Bk wr col (.agg #[x2, y2]) base2 ls2
theorem BX.path {J : Nat → Prop} {w w' : World} {col col' : Nat → Nat} {g1 g2 : Nat} {x1 y1 x2 y2 : Value} {base1 : List UInt8} {ls1 : List (List UInt8)} {base2 : List UInt8} {ls2 : List (List UInt8)} (h : BX w col g1 g2 x1 y1 x2 y2 base1 ls1 base2 ls2) (p : Path J w col w' col') (hJ : ∀ i, J i → i ≠ 0 ∧ i ≠ 3) : BX w' col' g1 g2 x1 y1 x2 y2 base1 ls1 base2 ls2 := by
  have h1 := box_kept h.box1 h.col1 p fun i hi => (hJ i hi).2
  have h2 := box_kept h.box2 h.col2 p fun i hi => (hJ i hi).2
  exact ⟨h1.1, h2.1, h1.2, h2.2, h.ne, h.bk1.path p fun i hi => (hJ i hi).1, h.bk2.path p fun i hi => (hJ i hi).1⟩
theorem BX.grow {w w' : World} {col : Nat → Nat} {g1 g2 : Nat} {x1 y1 x2 y2 : Value} {base1 : List UInt8} {ls1 : List (List UInt8)} {base2 : List UInt8} {ls2 : List (List UInt8)} (h : BX w col g1 g2 x1 y1 x2 y2 base1 ls1 base2 ls2) (hb : Below w.heap.size w w') : BX w' (paint w col (fun _ => 0)) g1 g2 x1 y1 x2 y2 base1 ls1 base2 ls2 :=
  h.path (J := fun _ => False) (.grow .refl hb) (fun i hi => hi.elim)
theorem BX.cells {w : World} {col : Nat → Nat} {g1 g2 : Nat} {x1 y1 x2 y2 : Value} {base1 : List UInt8} {ls1 : List (List UInt8)} {base2 : List UInt8} {ls2 : List (List UInt8)} (h : BX w col g1 g2 x1 y1 x2 y2 base1 ls1 base2 ls2) :
    (w.cell? ⟨g1, 0, none⟩ = some x1 ∧ w.cell? ⟨g1, 1, none⟩ = some y1) ∧ (w.cell? ⟨g2, 0, none⟩ = some x2 ∧ w.cell? ⟨g2, 1, none⟩ = some y2) :=
  ⟨⟨by rw [cell_of_row _ _ 0 _ _ _ h.box1]; rfl, by rw [cell_of_row _ _ 1 _ _ _ h.box1]; rfl⟩, ⟨by rw [cell_of_row _ _ 0 _ _ _ h.box2]; rfl, by rw [cell_of_row _ _ 1 _ _ _ h.box2]; rfl⟩⟩
theorem only3 {i : Nat} (h : Only 3 i) : i = 3 := h
theorem path_row (w : World) {col : Nat → Nat} {g : Nat} (hc : col g = 3) (cs : Array Value) : Path (Only 3) w col (w.setRow g cs) col := .step rfl .refl (Step.row hc cs)
/-- A book was written into the first block. -/
theorem BX.put1 {w : World} {col : Nat → Nat} {g1 g2 : Nat} {x1 y1 x2 y2 x y : Value} {base1 : List UInt8} {ls1 : List (List UInt8)} {base2 : List UInt8} {ls2 : List (List UInt8)} {base : List UInt8} {ls : List (List UInt8)} (h : BX w col g1 g2 x1 y1 x2 y2 base1 ls1 base2 ls2) (hk : Bk w col (.agg #[x, y]) base ls) :
    BX (w.setRow g1 #[x, y]) col g1 g2 x y x2 y2 base ls base2 ls2 := by
  have p := path_row w h.col1 #[x, y]
  have hJ : ∀ i, Only 3 i → i ≠ 0 := fun i hi => by rw [only3 hi]; omega
  exact ⟨setRow_heap _ _ _ _ _ _ h.box1, (setRow_other _ _ _ _ h.ne.symm).trans h.box2, h.col1, h.col2, h.ne, hk.path p hJ, h.bk2.path p hJ⟩
theorem BX.put2 {w : World} {col : Nat → Nat} {g1 g2 : Nat} {x1 y1 x2 y2 x y : Value} {base1 : List UInt8} {ls1 : List (List UInt8)} {base2 : List UInt8} {ls2 : List (List UInt8)} {base : List UInt8} {ls : List (List UInt8)} (h : BX w col g1 g2 x1 y1 x2 y2 base1 ls1 base2 ls2) (hk : Bk w col (.agg #[x, y]) base ls) :
    BX (w.setRow g2 #[x, y]) col g1 g2 x1 y1 x y base1 ls1 base ls := by
  have p := path_row w h.col2 #[x, y]
  have hJ : ∀ i, Only 3 i → i ≠ 0 := fun i hi => by rw [only3 hi]; omega
  exact ⟨(setRow_other _ _ _ _ h.ne).trans h.box1, setRow_heap _ _ _ _ _ _ h.box2, h.col1, h.col2, h.ne, h.bk1.path p hJ, hk.path p hJ⟩
theorem three_ok {i : Nat} (h : Only 3 i) : i ≠ 0 ∧ i ≠ 1 ∧ i ≠ 2 := by rw [only3 h]; omega
theorem two_ok {i : Nat} (h : Two 1 2 i) : i ≠ 0 ∧ i ≠ 3 := by
  have : i = 1 ∨ i = 2 := h
  omega
/-- Behind the steps: what a crash may show is in one of the books. -/
structure CK (w wr : World) (col : Nat → Nat) (gd mb g1 g2 : Nat) (d : DK) (x1 y1 x2 y2 : Value) (base1 : List UInt8) (ls1 : List (List UInt8)) (base2 : List UInt8) (ls2 : List (List UInt8)) : Prop where
  old : Old w wr col
  disk : DiskAt wr col 1 gd mb d
  gone : Gone d 1000 100000
  bx : BX wr col g1 g2 x1 y1 x2 y2 base1 ls1 base2 ls2
  len1 : ls1.length ≤ 100
  len2 : ls2.length ≤ 100
  shown : ∀ g, CrashOf d g → Shown g base1 ls1 ∨ Shown g base2 ls2
/-- While there is power. -/
structure AK (w wr : World) (col : Nat → Nat) (gd mb gj g1 g2 i : Nat) (d : DK) (j : JK) (x1 y1 x2 y2 : Value) (base : List UInt8) (ls : List (List UInt8)) : Prop where
  old : Old w wr col
  jq : JQ wr col 1 2 gd mb gj (1000 * i) d j
  n : d.n = 1000
  num : j.number ≤ i
  endp : j.endp ≤ 64 + 400 * i
  bx : BX wr col g1 g2 x1 y1 x2 y2 base ls base ls
  eqb : j.base.b = base
  eqr : j.recs.map (·.b) = ls
  len : ls.length ≤ i
theorem AK.ck {w wr : World} {col : Nat → Nat} {gd mb gj g1 g2 i : Nat} {d : DK} {j : JK} {x1 y1 x2 y2 : Value} {base : List UInt8} {ls : List (List UInt8)} (h : AK w wr col gd mb gj g1 g2 i d j x1 y1 x2 y2 base ls) (hi : i ≤ 30) : CK w wr col gd mb g1 g2 d x1 y1 x2 y2 base ls base ls := by
  have h1 := h.num
  have h2 := h.endp
  have h3 := h.len
  refine ⟨h.old, h.jq.disk, (h.jq.gone h.n).more (by omega), h.bx, by omega, by omega, fun g hg => .inl ?_⟩
  rw [← h.eqb, ← h.eqr]
  exact h.jq.shown h.n (by omega) (by omega) hg
theorem AK.low {w wr : World} {col : Nat → Nat} {gd mb gj g1 g2 i : Nat} {d : DK} {j : JK} {x1 y1 x2 y2 : Value} {base : List UInt8} {ls : List (List UInt8)} (h : AK w wr col gd mb gj g1 g2 i d j x1 y1 x2 y2 base ls) : 64 ≤ j.endp ∧ j.recs.length ≤ i := by
  have h1 := h.jq.inv.recs.mono_end
  have h2 := congrArg List.length h.eqr
  have h3 := h.len
  rw [List.length_map] at h2
  exact ⟨by omega, by omega⟩
theorem doneB_len (sk n k : Int) (base : List UInt8) (ls : List (List UInt8)) : (doneB sk n k base ls).2.length ≤ ls.length + 1 := by
  unfold doneB
  split
  · simp
  · split
    · simp
    · exact Nat.le_succ _
/-- Behind a step that was done. -/
structure DK1 (w wr : World) (col : Nat → Nat) (gd mb gj g1 g2 i : Nat) (d : DK) (j : JK) (sk sn sx : Int) (x1 y1 x2 y2 : Value) (base : List UInt8) (ls : List (List UInt8)) : Prop where
  old : Old w wr col
  jq : JQ wr col 1 2 gd mb gj (1000 * (i + 1)) d j
  n : d.n = 1000
  num : j.number ≤ i + 1
  endp : j.endp ≤ 64 + 400 * (i + 1)
  bx : BX wr col g1 g2 x1 y1 x2 y2 base ls base ls
  eqb : j.base.b = (doneB sk sn sx base ls).1
  eqr : j.recs.map (·.b) = (doneB sk sn sx base ls).2
  len : ls.length ≤ i
/-- Behind a step that was cut off. -/
structure DK7 (w wr : World) (col : Nat → Nat) (gd mb gj g1 g2 i : Nat) (d : DK) (j : JK) (sk sn sx : Int) (x1 y1 x2 y2 : Value) (base : List UInt8) (ls : List (List UInt8)) : Prop where
  old : Old w wr col
  disk : DiskAt wr col 1 gd mb d
  jr : JAt wr col 2 gj gd j
  dead : j.dead = true
  gone : Gone d 1000 100000
  bx : BX wr col g1 g2 x1 y1 x2 y2 base ls base ls
  len : ls.length ≤ i
  shown : ∀ g, CrashOf d g → Shown g base ls ∨ Shown g (doneB sk sn sx base ls).1 (doneB sk sn sx base ls).2
set_option maxRecDepth 10000 in
theorem AK.does {w wr : World} {col : Nat → Nat} {gd mb gj g1 g2 i : Nat} {d : DK} {j : JK} {x1 y1 x2 y2 : Value} {base : List UInt8} {ls : List (List UInt8)} (h : AK w wr col gd mb gj g1 g2 i d j x1 y1 x2 y2 base ls) (hi : i < 30) (sk n k : Int) (hwn : -9223372036854775808 ≤ n ∧ n ≤ 9223372036854775807) :
    Calls Try.prog 23 #[.pointer (some ⟨gj, 0, none⟩), .agg #[.int .i64 sk, .int .i64 n, .int .i64 k]] wr fun e w' => ∃ (x : Int) (d' : DK) (j' : JK) (col' : Nat → Nat), e = .returned (.int .i64 x) ∧
      ((x = 0 ∧ DK1 w w' col' gd mb gj g1 g2 i d' j' sk n k x1 y1 x2 y2 base ls) ∨ (x = 7 ∧ DK7 w w' col' gd mb gj g1 g2 i d' j' sk n k x1 y1 x2 y2 base ls)) := by
  have hl := h.low
  have h1 := h.num
  have h2 := h.endp
  refine (does_jq 1 2 gd mb gj (1000 * i) d j sk n k wr col h.jq (by omega) (by omega) (by omega) (by omega) (by omega) hwn h.n ⟨hl.1, by omega⟩ (by omega)).mono ?_
  rintro e w' ⟨x, d', j', col', rfl, p, hx⟩
  have ho := h.old.path p (fun i hi => (two_ok hi).1)
  have hb := h.bx.path p (fun i hi => two_ok hi)
  rw [h.eqb, h.eqr] at hx
  rcases hx with ⟨rfl, c1, c2, c3, c4, c5, c6⟩ | ⟨rfl, c1, c2, c3, c4, c5⟩
  · have c8 := c1.more (b := 1000 * (i + 1)) (by omega)
    have c9 : j'.number ≤ i + 1 := by omega
    have c10 : j'.endp ≤ 64 + 400 * (i + 1) := by omega
    exact ⟨0, d', j', col', rfl, .inl ⟨rfl, ⟨ho, c8, c2, c9, c10, hb, c5, c6, h.len⟩⟩⟩
  · have c6 := Gone.more (b := 100000) c4 (by omega)
    have c7 : DK7 w w' col' gd mb gj g1 g2 i d' j' sk n k x1 y1 x2 y2 base ls := ⟨ho, c1, c2, c3, c6, hb, h.len, c5⟩
    exact ⟨7, d', j', col', rfl, .inr ⟨rfl, c7⟩⟩
theorem DK1.grow {w wr w3 : World} {col : Nat → Nat} {gd mb gj g1 g2 i : Nat} {d : DK} {j : JK} {sk sn sx : Int} {x1 y1 x2 y2 : Value} {base : List UInt8} {ls : List (List UInt8)} (h : DK1 w wr col gd mb gj g1 g2 i d j sk sn sx x1 y1 x2 y2 base ls) (hb : Below wr.heap.size wr w3) : DK1 w w3 (paint wr col (fun _ => 0)) gd mb gj g1 g2 i d j sk sn sx x1 y1 x2 y2 base ls :=
  ⟨h.old.grow hb _, h.jq.grow hb _, h.n, h.num, h.endp, h.bx.grow hb, h.eqb, h.eqr, h.len⟩
theorem DK7.grow {w wr w3 : World} {col : Nat → Nat} {gd mb gj g1 g2 i : Nat} {d : DK} {j : JK} {sk sn sx : Int} {x1 y1 x2 y2 : Value} {base : List UInt8} {ls : List (List UInt8)} (h : DK7 w wr col gd mb gj g1 g2 i d j sk sn sx x1 y1 x2 y2 base ls) (hb : Below wr.heap.size wr w3) : DK7 w w3 (paint wr col (fun _ => 0)) gd mb gj g1 g2 i d j sk sn sx x1 y1 x2 y2 base ls :=
  ⟨h.old.grow hb _, h.disk.grow hb _, h.jr.grow hb _, h.dead, h.gone, h.bx.grow hb, h.len, h.shown⟩
/-- The step's book is in the first block, and then in the second. -/
theorem DK1.put {w wr w3 : World} {col : Nat → Nat} {gd mb gj g1 g2 i : Nat} {d : DK} {j : JK} {sk n k : Int} {x1 y1 x2 y2 x y : Value} {base : List UInt8} {ls : List (List UInt8)} (h : DK1 w wr col gd mb gj g1 g2 i d j sk n k x1 y1 x2 y2 base ls) (hb : Below wr.heap.size wr w3) (hk : Bk w3 (paint wr col (fun _ => 0)) (.agg #[x, y]) (doneB sk n k base ls).1 (doneB sk n k base ls).2) :
    Old w (w3.setRow g1 #[x, y]) (paint wr col (fun _ => 0)) ∧ BX (w3.setRow g1 #[x, y]) (paint wr col (fun _ => 0)) g1 g2 x y x2 y2 (doneB sk n k base ls).1 (doneB sk n k base ls).2 base ls ∧
    AK w ((w3.setRow g1 #[x, y]).setRow g2 #[x, y]) (paint wr col (fun _ => 0)) gd mb gj g1 g2 (i + 1) d j x y x y (doneB sk n k base ls).1 (doneB sk n k base ls).2 := by
  have b3 := h.bx.grow hb
  have b4 := b3.put1 hk
  have p4 := path_row w3 b3.col1 #[x, y]
  have b5 := b4.put2 b4.bk1
  have p5 := p4.trans (path_row _ b4.col2 #[x, y])
  have hJ : ∀ i, Only 3 i → i ≠ 0 ∧ i ≠ 1 ∧ i ≠ 2 := fun i hi => three_ok hi
  refine ⟨(h.old.grow hb _).path p4 (fun i hi => (hJ i hi).1), b4, (h.old.grow hb _).path p5 (fun i hi => (hJ i hi).1), (h.jq.grow hb _).path p5 hJ, h.n, h.num, h.endp, b5, h.eqb, h.eqr, ?_⟩
  have := doneB_len sk n k base ls
  have := h.len
  omega
/-- The step that was cut off: its book is in the second block. -/
theorem DK7.put {w wr w3 : World} {col : Nat → Nat} {gd mb gj g1 g2 i : Nat} {d : DK} {j : JK} {sk n k : Int} {x1 y1 x2 y2 x y : Value} {base : List UInt8} {ls : List (List UInt8)} (h : DK7 w wr col gd mb gj g1 g2 i d j sk n k x1 y1 x2 y2 base ls) (hi : i ≤ 30) (hb : Below wr.heap.size wr w3) (hk : Bk w3 (paint wr col (fun _ => 0)) (.agg #[x, y]) (doneB sk n k base ls).1 (doneB sk n k base ls).2) :
    CK w (w3.setRow g2 #[x, y]) (paint wr col (fun _ => 0)) gd mb g1 g2 d x1 y1 x y base ls (doneB sk n k base ls).1 (doneB sk n k base ls).2 ∧ JAt (w3.setRow g2 #[x, y]) (paint wr col (fun _ => 0)) 2 gj gd j := by
  have b3 := h.bx.grow hb
  have b4 := b3.put2 hk
  have p4 := path_row w3 b3.col2 #[x, y]
  have hJ : ∀ i, Only 3 i → i ≠ 0 ∧ i ≠ 1 ∧ i ≠ 2 := fun i hi => three_ok hi
  have h1 := doneB_len sk n k base ls
  have h2 := h.len
  exact ⟨⟨(h.old.grow hb _).path p4 (fun i hi => (hJ i hi).1), (h.disk.grow hb _).path p4 (fun i hi => ⟨(hJ i hi).1, (hJ i hi).2.1⟩), h.gone, b4, by omega, by omega, h.shown⟩, (h.jr.grow hb _).path p4 (fun i hi => ⟨(hJ i hi).1, (hJ i hi).2.2⟩)⟩
/-- A base and records that were told: a new book. -/
theorem bk_new {w w1 w2 : World} (col : Nat → Nat) {v1 v2 : Value} {base : List UInt8} {ls : List (List UInt8)} {rs : List Wr} (h1 : OB w1 w.heap.size 5 v1 base) (hb1 : Below w.heap.size w w1) (h2 : NewL w1 w2 v2 ls rs) (hb2 : Below w1.heap.size w1 w2) :
    ∃ A1 k1 A2 k2, v1 = .slice A1 base.length k1 ∧ v2 = .slice A2 ls.length k2 ∧ Bk w2 (paint w col (fun _ => 0)) (.agg #[v1, v2]) base ls ∧ RC w2 (paint w col (fun _ => 0)) 0 A1 base := by
  obtain ⟨A1, k1, e1, sv1, rb1⟩ := h1.reads
  subst e1
  have hlt1 := h1.row.lt
  have hrc : RC w2 (paint w col (fun _ => 0)) 0 A1 base := ⟨rb1.below hb2, fun hp ad e => paint_new (by subst e; exact (hlt1 ad.block rfl).1)⟩
  have hs1 := hb1.size
  have hlen : rs.length = ls.length := by rw [← h2.eq, List.length_map]
  have hlt2 := h2.own.lt
  obtain ⟨A2, k2, e2, g1, g2, g3⟩ := own_FL h2.own
  subst e2
  rw [hlen]
  refine ⟨A1, k1, A2, k2, rfl, rfl, ⟨A1, k1, A2, _, k2, rs, rfl, hrc, sv1, ⟨hlen.symm, g2, by rw [← hlen]; exact g1, fun hp => ?_, fun s hs => ?_⟩, h2.eq⟩, hrc⟩
  · obtain ⟨g, rfl, -⟩ := g3 0 _ (List.getElem?_eq_getElem hp)
    refine ⟨_, rfl, paint_new (by have := (hlt2 g rfl).1; show w.heap.size ≤ g; omega), fun j s hs => ?_⟩
    obtain ⟨g', e', hc⟩ := g3 j s hs
    cases e'
    rw [add0]
    exact hc
  · obtain ⟨t1, t2, t3, t4⟩ := h2.at_ s hs
    exact ⟨t1, t2, fun hp ad e => paint_new (by have := (t3 hp ad e).1; omega)⟩
/-- A new book in a block that nobody writes any more. -/
structure BB (wr : World) (col : Nat → Nat) (gb : Nat) (A1 : Option Addr) (n1 k1 : Nat) (A2 : Option Addr) (n2 k2 : Nat) (base : List UInt8) (ls : List (List UInt8)) : Prop where
  box : wr.heap[gb]? = some (.cells #[.slice A1 n1 k1, .slice A2 n2 k2] 39 (0, 0))
  col0 : col gb = 0
  bk : Bk wr col (.agg #[.slice A1 n1 k1, .slice A2 n2 k2]) base ls
  rb : RC wr col 0 A1 base
  e1 : base.length = n1
  e2 : ls.length = n2
theorem BB.path {J : Nat → Prop} {w w' : World} {col col' : Nat → Nat} {gb : Nat} {A1 : Option Addr} {n1 k1 : Nat} {A2 : Option Addr} {n2 k2 : Nat} {base : List UInt8} {ls : List (List UInt8)} (h : BB w col gb A1 n1 k1 A2 n2 k2 base ls) (p : Path J w col w' col') (hJ : ∀ i, J i → i ≠ 0) : BB w' col' gb A1 n1 k1 A2 n2 k2 base ls :=
  ⟨p.cells hJ h.box h.col0, (p.zero hJ (Array.getElem?_eq_some_iff.1 h.box).1 h.col0).2.1, h.bk.path p hJ, h.rb.path p hJ, h.e1, h.e2⟩
theorem BB.grow {w w' : World} {col : Nat → Nat} {gb : Nat} {A1 : Option Addr} {n1 k1 : Nat} {A2 : Option Addr} {n2 k2 : Nat} {base : List UInt8} {ls : List (List UInt8)} (h : BB w col gb A1 n1 k1 A2 n2 k2 base ls) (hb : Below w.heap.size w w') : BB w' (paint w col (fun _ => 0)) gb A1 n1 k1 A2 n2 k2 base ls :=
  h.path (J := fun _ => False) (.grow .refl hb) (fun i hi => hi.elim)
theorem BB.cells {w : World} {col : Nat → Nat} {gb : Nat} {A1 : Option Addr} {n1 k1 : Nat} {A2 : Option Addr} {n2 k2 : Nat} {base : List UInt8} {ls : List (List UInt8)} (h : BB w col gb A1 n1 k1 A2 n2 k2 base ls) : w.cell? ⟨gb, 0, none⟩ = some (.slice A1 n1 k1) ∧ w.cell? ⟨gb, 1, none⟩ = some (.slice A2 n2 k2) :=
  ⟨by rw [cell_of_row _ _ 0 _ _ _ h.box]; rfl, by rw [cell_of_row _ _ 1 _ _ _ h.box]; rfl⟩
/-- The block was made, and the book put into it. -/
theorem BB.made {w w3 : World} {col : Nat → Nat} {A1 : Option Addr} {n1 k1 : Nat} {A2 : Option Addr} {n2 k2 : Nat} {base : List UInt8} {ls : List (List UInt8)} (hk : Bk w col (.agg #[.slice A1 n1 k1, .slice A2 n2 k2]) base ls) (hr : RC w col 0 A1 base) (e1 : base.length = n1) (e2 : ls.length = n2)
    (hw : w3 = (w.alloc (.cells #[.slice none 0 0, .slice none 0 0] 39)).setRow w.heap.size #[.slice A1 n1 k1, .slice A2 n2 k2]) : Below w.heap.size w w3 ∧ BB w3 (paint w col (fun _ => 0)) w.heap.size A1 n1 k1 A2 n2 k2 base ls := by
  have hb : Below w.heap.size w w3 := by rw [hw]; exact below_setRow (bel_alloc (Below.refl _ _) _) (Nat.le_refl _) _
  have hp : Path (fun _ => False) w col w3 (paint w col (fun _ => 0)) := .grow .refl hb
  refine ⟨hb, ⟨?_, paint_new (Nat.le_refl _), hk.grow hb, hr.path hp (fun i hi => hi.elim), e1, e2⟩⟩
  rw [hw]
  exact setRow_heap _ _ _ _ _ _ (heap_alloc_new w _)
end Go.Proofs.Ytdldclakkplliaa
