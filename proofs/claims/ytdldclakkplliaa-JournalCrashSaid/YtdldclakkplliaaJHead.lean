/- A row of acts of a disk, up to the first that is refused; the walk of heading. Conditions: none. -/
import Derived.Test.YtdldclakkplliaaJAt
import Derived.Test.YtdldclakkplliaaTwin
import Derived.Test.YtdldclakkplliaaCuts
namespace Go.Proofs.Ytdldclakkplliaa
set_option linter.unusedVariables false
set_option linter.unusedSimpArgs false
open Go.RowKit

/-- Acts, one behind the other, up to the first that is refused: a write, or a flush. -/
def runA : DK → List (Option Wr) → DK × Int
  | d, [] => (d, 0)
  | d, some s :: l => if writeE d s.at_ s.b.length = 0 then runA (writeD d s) l else (writeD d s, writeE d s.at_ s.b.length)
  | d, none :: l => if (askedK d).2 = 0 then runA (flushD d) l else (flushD d, (askedK d).2)
/-- The disk behind acts that are known but for the place of their bytes. -/
def Acts (d : DK) (sh : List (Option (Int × List UInt8))) (d' : DK) (x : Int) : Prop := ∃ l : List (Option Wr), l.map (Option.map prW) = sh ∧ runA d l = (d', x)
theorem runA_append (d : DK) (a b : List (Option Wr)) : runA d (a ++ b) = if (runA d a).2 = 0 then runA (runA d a).1 b else runA d a := by
  induction a generalizing d with
  | nil => simp [runA]
  | cons o a ih =>
    cases o with
    | none =>
      simp only [List.cons_append, runA]
      split
      · exact ih _
      · rename_i h
        first | rfl | rw [if_neg h]
    | some s =>
      simp only [List.cons_append, runA]
      split
      · exact ih _
      · rename_i h
        first | rfl | rw [if_neg h]
theorem Acts.nil (d : DK) : Acts d [] d 0 := ⟨[], rfl, rfl⟩
theorem Acts.then {d d1 d2 : DK} {a b : List (Option (Int × List UInt8))} {x : Int} (h : Acts d a d1 0) (k : Acts d1 b d2 x) : Acts d (a ++ b) d2 x := by
  obtain ⟨l, h1, h2⟩ := h
  obtain ⟨l', k1, k2⟩ := k
  refine ⟨l ++ l', by rw [List.map_append, h1, k1], ?_⟩
  rw [runA_append, h2, if_pos rfl]
  exact k2
theorem Acts.stop {d d1 : DK} {a : List (Option (Int × List UInt8))} (b : List (Option (Int × List UInt8))) {x : Int} (h : Acts d a d1 x) (hx : x ≠ 0) : Acts d (a ++ b) d1 x := by
  obtain ⟨l, h1, h2⟩ := h
  refine ⟨l ++ b.map (Option.map fun p => ⟨p.1, p.2, none, 0⟩), ?_, ?_⟩
  · rw [List.map_append, h1, List.map_map]
    congr 1
    have : (Option.map prW ∘ Option.map fun p : Int × List UInt8 => (⟨p.1, p.2, none, 0⟩ : Wr)) = id := by
      funext o
      cases o <;> rfl
    rw [this, List.map_id]
  · rw [runA_append, h2, if_neg hx]
theorem Acts.write {d : DK} {i : Int} {b : List UInt8} (A : Option Addr) (c : Nat) (h : writeE d i b.length = 0) : Acts d [some (i, b)] (writeD d ⟨i, b, A, c⟩) 0 := ⟨[some ⟨i, b, A, c⟩], rfl, by simp [runA, h]⟩
theorem Acts.write' {d : DK} {i : Int} {b : List UInt8} (A : Option Addr) (c : Nat) : Acts d [some (i, b)] (writeD d ⟨i, b, A, c⟩) (writeE d i b.length) := ⟨[some ⟨i, b, A, c⟩], rfl, by
  simp only [runA]
  split
  · rename_i h; rw [h]
  · rfl⟩
theorem Acts.flush {d : DK} : Acts d [none] (flushD d) (askedK d).2 := ⟨[none], rfl, by
  simp only [runA]
  split
  · rename_i h; rw [h]
  · rfl⟩
theorem runA_more (d : DK) (l : List (Option Wr)) (a : Nat) (hf : d.fits a) (hm : d.m + d.cache.length ≤ a) : (runA d l).1.fits (a + l.length) ∧ (runA d l).1.m + (runA d l).1.cache.length ≤ a + l.length ∧ (runA d l).1.n = d.n := by
  induction l generalizing d a with
  | nil => exact ⟨hf, hm, rfl⟩
  | cons o l ih =>
    cases o with
    | none =>
      have h1 := flush_fits hf
      have h2 : (flushD d).m + (flushD d).cache.length ≤ a + 1 := by
        unfold flushD
        split
        · show d.m + d.cache.length + ([] : List Wr).length ≤ _
          simp; omega
        · rw [asked_m, asked_cache]; omega
      simp only [runA, List.length_cons]
      split
      · have := ih (flushD d) (a + 1) h1 h2
        rw [show a + (l.length + 1) = a + 1 + l.length by omega]
        exact ⟨this.1, this.2.1, this.2.2.trans (flush_n d)⟩
      · exact ⟨DiskAt.fits' h1 (by omega), by show (flushD d).m + (flushD d).cache.length ≤ _; omega, flush_n d⟩
    | some s =>
      have h1 : (writeD d s).fits (a + 1) := write_fits hf
      have h2 : (writeD d s).m + (writeD d s).cache.length ≤ a + 1 := by
        unfold writeD
        split
        · show (askedK d).1.m + (d.cache ++ [s]).length ≤ _
          rw [asked_m, List.length_append]; simp; omega
        · rw [asked_m, asked_cache]; omega
      simp only [runA, List.length_cons]
      split
      · have := ih (writeD d s) (a + 1) h1 h2
        rw [show a + (l.length + 1) = a + 1 + l.length by omega]
        exact ⟨this.1, this.2.1, this.2.2.trans (write_n d s)⟩
      · exact ⟨DiskAt.fits' h1 (by omega), by show (writeD d s).m + (writeD d s).cache.length ≤ _; omega, write_n d s⟩
theorem Acts.more {d d' : DK} {sh : List (Option (Int × List UInt8))} {x : Int} (h : Acts d sh d' x) {a : Nat} (hf : d.fits a) (hm : d.m + d.cache.length ≤ a) : d'.fits (a + sh.length) ∧ d'.m + d'.cache.length ≤ a + sh.length ∧ d'.n = d.n := by
  obtain ⟨l, h1, h2⟩ := h
  have := runA_more d l a hf hm
  rw [h2] at this
  rw [← h1, List.length_map]
  exact this

/-- Bytes put into a sector. -/
def patch (s : List UInt8) (o : Nat) (b : List UInt8) : List UInt8 := s.take o ++ b ++ s.drop (o + b.length)
theorem patch_len {s : List UInt8} {o : Nat} {b : List UInt8} (h : o + b.length ≤ s.length) : (patch s o b).length = s.length := by
  unfold patch
  rw [List.length_append, List.length_append, List.length_take, List.length_drop]
  omega
theorem JV.c0 {w : World} {col : Nat → Nat} {id gj gd : Nat} {vr : Value} {j : JK} (h : JV w col id gj gd vr j) : w.cell? ⟨gj, 0, none⟩ = some (.pointer (some ⟨gd, 0, none⟩)) := by rw [cell_of_row _ _ 0 _ _ _ h.obj]; rfl
def Only (id : Nat) (j : Nat) : Prop := j = id
/-- What acts of the journal do: the answer, and the disk. -/
def ActQ (id gd mb : Nat) (d : DK) (sh : List (Option (Int × List UInt8))) (w : World) (col : Nat → Nat) (e : Ending) (w' : World) : Prop :=
  ∃ x d' col', e = .returned (.int .i64 x) ∧ Path (Only id) w col w' col' ∧ DiskAt w' col' id gd mb d' ∧ Acts d sh d' x
theorem writeE_in {d : DK} {i : Int} (hi : 0 ≤ i ∧ i < d.n) : writeE d i 64 = (askedK d).2 := by
  unfold writeE
  split
  · rfl
  · rename_i h
    rw [if_neg (by omega)]
    have := asked_e d
    omega
set_option maxRecDepth 100000 in
set_option maxHeartbeats 4000000 in
theorem heading_any (id idj gd mb gj : Nat) (d : DK) (j : JK) (half at' a cl : Nat) (A : Option Addr) (c : Nat) (b : List UInt8) (w : World) (col : Nat → Nat) (h : DiskAt w col id gd mb d) (hj : JAt w col idj gj gd j) (h0 : id ≠ 0) (hne : id ≠ idj) (hr : RC w col cl A b) (hcl : cl ≠ id) (hf : d.fits a) (ha : a ≤ 900000) (hm : d.m + d.cache.length ≤ a) (hh : half ≤ 1)
    (hat : at' / 64 < d.n / 2) (hb : at' % 64 + b.length ≤ 64) :
    Calls Try.prog 50 #[.pointer (some ⟨gj, 0, none⟩), .int .i64 half, .int .i64 at', .slice A b.length c] w (ActQ id gd mb d [some (((half * (d.n / 2) + at' / 64 : Nat) : Int), patch (readB d ((half * (d.n / 2) + at' / 64 : Nat) : Int)) (at' % 64) b), none] w col) := by
  obtain ⟨vr, hj⟩ := hj
  obtain ⟨v, hv⟩ := h
  have hdom := hv.dom
  obtain ⟨N2, hN2⟩ : ∃ N, N = d.n / 2 := ⟨_, rfl⟩
  obtain ⟨H, hH⟩ : ∃ H, H = half * N2 := ⟨_, rfl⟩
  obtain ⟨q, hq⟩ : ∃ q, q = at' / 64 := ⟨_, rfl⟩
  obtain ⟨o, ho⟩ : ∃ o, o = at' % 64 := ⟨_, rfl⟩
  rw [← hN2, ← hH, ← hq, ← ho]
  rw [← hN2, ← hq] at hat
  rw [← ho] at hb
  have hHb : H + q < d.n ∧ H ≤ d.n := by
    rcases (by omega : half = 0 ∨ half = 1) with e | e
    · rw [e] at hH; omega
    · rw [e] at hH; omega
  obtain ⟨I, hI⟩ : ∃ I, I = H + q := ⟨_, rfl⟩
  rw [← hI]
  have t1 : (d.n : Int).tdiv 2 = (N2 : Int) := by rw [Int.tdiv_eq_ediv_of_nonneg (by omega)]; omega
  have t2 : (half : Int) * (N2 : Int) = (H : Int) := by rw [hH]; push_cast; rfl
  have t3 : (at' : Int).tdiv 64 = (q : Int) := by rw [Int.tdiv_eq_ediv_of_nonneg (by omega)]; omega
  have t4 : (at' : Int).tmod 64 = (o : Int) := by rw [Int.tmod_eq_emod_of_nonneg (by omega)]; omega
  have c0 := hj.c0
  have HV := Lib.hid hv
  have HJ := Lib.hid hj
  have HR := Lib.hid hr
  obtain ⟨bl, hbl⟩ : ∃ l, l = b.length := ⟨_, rfl⟩
  have HBL := Lib.hid hbl
  rw [← hbl] at hb ⊢
  have hcl1 : d.cache.length ≤ 1000000 := by omega
  have HRD : Hid (∀ i : Int, i = I → Calls Try.prog 31 #[.pointer (some ⟨gd, 0, none⟩), .int .i64 i] w fun e w' => ∃ A c, e = .returned (.tuple #[.slice A 64 c, .int .i64 0]) ∧ OB w' w.heap.size 5 (.slice A 64 c) (readB d I) ∧ Below w.heap.size w w') := Lib.hid (fun i hi => by
    subst hi
    exact read_good id gd mb d v I w col HV.out ⟨by omega, by omega⟩ hcl1)
  have hlen := readB_len hv (I : Int)
  obtain ⟨S0, hS0⟩ : ∃ S, S = readB d I := ⟨_, rfl⟩
  rw [← hS0] at hlen HRD ⊢
  have HLEN := Lib.hid hlen
  obtain ⟨nb, hnb⟩ : ∃ x, x = patch S0 o b := ⟨_, rfl⟩
  have hnl : nb.length = 64 := by rw [hnb, patch_len (by omega), hlen]
  rw [← hnb]
  have HNB := Lib.hid hnb
  have HNL := Lib.hid hnl
  have hdomn := hdom.2
  have hn2 : N2 ≤ 65536 := by omega
  have HFM := Lib.hid (And.intro hf hm)
  have HI := Lib.hid hI
  have ho64 : o < 64 := by omega
  have HA2 := Lib.hid (show 0 ≤ (I : Int) ∧ (I : Int) < d.n from ⟨by omega, by omega⟩)
  clear hv hj hr hbl hlen hS0 hnb hnl hN2 hH hq ho hf hm hI
  go_enter Try.func50, Try.ntmps50
  go_wp2_with fail
  refine (sectors_any gd mb v d w HV.out.obj).mono ?_
  rintro e w' ⟨rfl, rfl⟩
  go_wp2_with fail
  refine (HRD.out _ (by rw [HI.out]; omega)).mono ?_
  rintro e w1 ⟨A1, c1, rfl, ho, hb1⟩
  have hform := ho.form (by rw [HLEN.out]; omega)
  rw [HLEN.out] at hform
  obtain ⟨g1, cap, e1, hg1, hcap, -, -⟩ := hform
  cases e1
  have hco : ¬ c1 = o := by omega
  obtain ⟨w2, hrun, ho2, hg2⟩ := copy_run (o := o) (dc := c1 - o) (sc := c) ho (HR.out.read.below hb1) (by omega) (Nat.min b.length (64 - o)) rfl
  rw [← HBL.out] at hrun
  have hnbk : S0.take o ++ b.take (Nat.min b.length (64 - o)) ++ S0.drop (o + Nat.min b.length (64 - o)) = nb := by
    have hk : Nat.min b.length (64 - o) = b.length := Nat.min_eq_left (by rw [← HBL.out]; omega)
    rw [hk, List.take_length, HNB.out]
    rfl
  rw [hnbk] at ho2
  have hb2 : Below w.heap.size w w2 := bel_grown hb1 hg2 (fun k e => by cases e; exact hg1)
  obtain ⟨A2, c2, e2, sv2, rb2⟩ := ho2.reads
  rw [HNL.out] at e2 sv2
  cases e2
  have D2 := Lib.hid (HV.out.grow hb2 (fun _ => 0))
  have J2 := Lib.hid (HJ.out.grow hb2 (fun _ => 0))
  have R2 := Lib.hid (RC.new (col := col) 0 rb2 (fun ad e => by cases e; exact hg1))
  have SV2 := Lib.hid sv2
  have P2 : Hid (Path (Only id) w col w2 (paint w col (fun _ => 0))) := Lib.hid (.grow .refl hb2)
  have c02 := J2.out.c0
  have HWE := Lib.hid (writeE_in HA2.out)
  clear ho hb1 ho2 hg2 hnbk hb2 sv2 rb2
  go_wp2_with fail
  have hIq : (H : Int) + (q : Int) = (I : Int) := by rw [HI.out]; omega
  have hwr := write_64 id gd mb d a ((H : Int) + (q : Int)) (some ⟨g1, 0, none⟩) c1 0 nb w2 _ ⟨_, D2.out⟩ HFM.out.1 (by omega) R2.out h0.symm SV2.out HNL.out
  rw [show writeE d ((H : Int) + (q : Int)) 64 = (askedK d).2 by rw [hIq]; exact HWE.out] at hwr
  refine hwr.mono ?_
  clear hwr
  rintro e w3 ⟨rfl, c3, A3, k3, st3, hd3⟩
  rw [hIq] at hd3
  have P3 := Lib.hid (Path.step (J := Only id) rfl P2.out st3)
  have J3 := Lib.hid (J2.out.step st3 hne h0)
  have D3 := Lib.hid hd3
  have HAW : Hid (Acts d [some ((I : Int), nb)] (writeD d ⟨I, nb, A3, k3⟩) (askedK d).2) := Lib.hid (by
    have := Acts.write' (d := d) (i := (I : Int)) (b := nb) A3 k3
    rw [HNL.out, HWE.out] at this
    exact this)
  have hmore := HAW.out.more HFM.out.1 HFM.out.2
  have HMORE := Lib.hid hmore
  have c03 := J3.out.c0
  clear hIq st3 hd3 hmore c02
  rcases asked_e d with he | he
  · rw [he] at HAW ⊢
    clear he
    go_wp2_with fail
    refine (flush_any id gd mb (writeD d ⟨I, nb, A3, k3⟩) (a + 1) w3 c3 D3.out HMORE.out.1 (by omega) (by have := HMORE.out.2.1; simp at this; omega)).mono ?_
    rintro e w4 ⟨rfl, st4, hd4⟩
    have P4 := Lib.hid (Path.step (J := Only id) rfl P3.out st4)
    have D4 := Lib.hid hd4
    clear st4 hd4 c03
    go_wp2
    go_ret
    exact ⟨_, _, c3, rfl, P4.out, D4.out, HAW.out.then Acts.flush⟩
  · rw [he] at HAW ⊢
    clear he
    go_wp2
    go_ret
    exact ⟨7, _, c3, rfl, P3.out, D3.out, HAW.out.stop [none] (by decide)⟩
end Go.Proofs.Ytdldclakkplliaa
