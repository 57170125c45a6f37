/- The walk of DiskCuts: so many acts are come to, and not one more. Conditions: none. -/
import Derived.Test.YtdldclakkplliaaTorn
import Derived.Test.YtdldclakkplliaaSteps
import Derived.Deep.CutBlock
namespace Go.Proofs.Ytdldclakkplliaa
set_option linter.unusedVariables false
set_option linter.unusedSimpArgs false
open Go.RowKit

noncomputable def G7 : Array Oper := regionOf Try.f7 14
theorem Gns7 : Region.noSelect G7 = true := by kernel_rfl

/-- So many acts were asked for since the cut, of n that there are. -/
def DK.runs (d : DK) (n k : Nat) : Prop := d.cut = true ∧ d.n = 8 ∧ d.ops = (k : Int) + 2 ∧ d.m + d.cache.length ≤ k + 2 ∧ ((k ≤ n ∧ d.off = false ∧ d.left = (n : Int) - k) ∨ (n < k ∧ d.off = true ∧ d.left = 0))
theorem runs_fits {d : DK} {n k : Nat} (h : d.runs n k) (hn : n ≤ 40) : d.fits (k + 2) := by
  obtain ⟨h1, h2, h3, h4, h5⟩ := h
  refine ⟨?_, ?_, by omega, by omega, by omega⟩ <;> (rcases h5 with h5 | h5 <;> omega)
theorem runs_asked {d : DK} {n k : Nat} (h : d.runs n k) : (askedK d).1.runs n (k + 1) ∧ (askedK d).2 = if n < k + 1 then 7 else 0 := by
  obtain ⟨h1, h2, h3, h4, h5⟩ := h
  unfold askedK
  rcases h5 with ⟨ha, hb, hc⟩ | ⟨ha, hb, hc⟩
  · by_cases hk : k = n
    · have e : (d.off || (d.cut && d.left == 0)) = true := by rw [h1, hc]; simp; right; omega
      rw [if_pos e]
      refine ⟨⟨h1, h2, by show d.ops + 1 = _; omega, by show d.m + d.cache.length ≤ _; omega, .inr ⟨by omega, rfl, by show d.left = 0; omega⟩⟩, by rw [if_pos (by omega)]⟩
    · have e : ¬ (d.off || (d.cut && d.left == 0)) = true := by rw [h1, hb, hc]; simp; omega
      rw [if_neg e]
      refine ⟨⟨h1, h2, by show d.ops + 1 = _; omega, by show d.m + d.cache.length ≤ _; omega, .inl ⟨by omega, hb, by show d.left - 1 = _; omega⟩⟩, by rw [if_neg (by omega)]⟩
  · have e : (d.off || (d.cut && d.left == 0)) = true := by rw [hb]; simp
    rw [if_pos e]
    exact ⟨⟨h1, h2, by show d.ops + 1 = _; omega, by show d.m + d.cache.length ≤ _; omega, .inr ⟨by omega, rfl, hc⟩⟩, by rw [if_pos (by omega)]⟩
/-- What is wanted of an act. -/
def cutsW (n k : Nat) (s : S3) : Int := if n < k + 1 then 7 else if s.k = 1 ∧ (s.a < 0 ∨ 8 ≤ s.a) then 1 else 0
theorem runs_write {d : DK} {n k : Nat} (h : d.runs n k) (s : S3) (hs : s.k = 1) (x : Wr) (hx : x.at_ = s.a) (hl : x.b.length = 64) : (writeD d x).runs n (k + 1) ∧ writeE d s.a 64 = cutsW n k s := by
  obtain ⟨g1, g2⟩ := runs_asked h
  have hn := h.2.1
  have he : writeE d s.a 64 = cutsW n k s := by
    unfold writeE cutsW
    rw [g2, hn]
    by_cases hk : n < k + 1
    · rw [if_pos hk, if_pos (by omega), if_pos hk]
    · rw [if_neg hk, if_neg (by omega), if_neg hk]
      by_cases hb : s.a < 0 ∨ 8 ≤ s.a
      · rw [if_pos (by omega), if_pos ⟨hs, hb⟩]
      · rw [if_neg (by omega), if_neg (fun h => hb h.2)]
  refine ⟨?_, he⟩
  unfold writeD
  split
  · obtain ⟨h1, h2, h3, h4, h5⟩ := g1
    refine ⟨h1, h2, h3, ?_, h5⟩
    show (askedK d).1.m + (d.cache ++ [x]).length ≤ _
    have := h.2.2.2.1
    rw [asked_m]
    simp
    omega
  · exact g1
theorem runs_flush {d : DK} {n k : Nat} (h : d.runs n k) (s : S3) (hs : s.k ≠ 1) : (flushD d).runs n (k + 1) ∧ (askedK d).2 = cutsW n k s := by
  obtain ⟨g1, g2⟩ := runs_asked h
  refine ⟨?_, ?_⟩
  · unfold flushD
    split
    · obtain ⟨h1, h2, h3, h4, h5⟩ := g1
      exact ⟨h1, h2, h3, by show d.m + d.cache.length + ([] : List Wr).length ≤ _; have := h.2.2.2.1; simp; omega, h5⟩
    · exact g1
  · rw [g2]
    unfold cutsW
    rw [if_neg (c := s.k = 1 ∧ _) (fun h => hs h.1)]

/-- A sector written, or refused: the contract. -/
theorem write_64 (id gd mb : Nat) (d : DK) (n : Nat) (i : Int) (A : Option Addr) (c cl : Nat) (b : List UInt8) (w : World) (col : Nat → Nat) (h : DiskAt w col id gd mb d) (hf : d.fits n) (hn : n ≤ 1000000) (hr : RC w col cl A b) (hcl : cl ≠ id) (hsv : SV A 64 c) (hb : b.length = 64) :
    Calls Try.prog 28 #[.pointer (some ⟨gd, 0, none⟩), .int .i64 i, .slice A 64 c] w fun e w' => e = .returned (.int .i64 (writeE d i 64)) ∧ ∃ col' A' c', Step id w col w' col' ∧ DiskAt w' col' id gd mb (writeD d ⟨i, b, A', c'⟩) := by
  have hw := write_any id gd mb d n i A c cl b w col h hf hn hr hcl (by rw [hb]; exact hsv)
  rw [hb] at hw
  refine hw.mono ?_
  rintro e w' ⟨rfl, h⟩
  rw [hb]
  exact ⟨rfl, h⟩

set_option maxRecDepth 100000 in
set_option maxHeartbeats 8000000 in
theorem cuts_walk (n : Nat) (A : Option Addr) (c : Nat) (ss : List S3) (w : World) (hr : RT w A ss) (hn : n ≤ 40) (hl : ss.length ≤ 40) (hwf : ∀ s ∈ ss, s.wf) :
    Calls Try.prog 7 #[.int .i64 n, .slice A ss.length c] w fun e w' => e = .returned (.bool true) ∧ Below w.heap.size w w' := by
  have HR := Lib.hid hr
  have HWF := Lib.hid hwf
  obtain ⟨len, hlen⟩ : ∃ m, m = ss.length := ⟨_, rfl⟩
  have HLEN := Lib.hid hlen
  rw [← hlen] at hl ⊢
  have hz1 : decide ((n : Int) < 0) = false := by simp
  have hz2 : decide (40 < (n : Int)) = false := by simp; omega
  have hz3 : decide (40 < (len : Int)) = false := by simp; omega
  clear hr hwf hlen
  go_enter Try.func7, Try.ntmps7
  go_wp2_with fail
  refine (new_any 1 8 (by omega) w (fun _ => 0) ⟨by omega, by omega⟩).mono ?_
  rintro e w1 ⟨gd, mb, c1, rfl, s1, h1⟩
  have O1 := Lib.hid ((Old.init w).step s1 (by omega))
  have D1 := Lib.hid h1
  clear s1 h1
  go_wp2_with fail
  refine (blkS_any 9 w1).mono ?_
  rintro e w2 ⟨A2, k2, rfl, sv2, rb2, fr2, hb2⟩
  obtain ⟨B2, hB2⟩ : ∃ B, B = blk 64 9 := ⟨_, rfl⟩
  rw [← hB2] at rb2
  have HL2 := Lib.hid (show B2.length = 64 by rw [hB2]; exact blk_length _ _)
  have O2 := Lib.hid (O1.out.grow hb2 (fun _ => 0))
  have D2 := Lib.hid (D1.out.grow hb2 (fun _ => 0))
  have R2 := Lib.hid (RC.new (col := c1) 0 rb2 fr2)
  have SV2 := Lib.hid sv2
  clear sv2 rb2 fr2 hb2 hB2 O1 D1
  go_wp2_with fail
  refine (write_calm 1 gd mb (newDK 8) 0 2 A2 k2 0 B2 w2 _ D2.out ⟨rfl, rfl⟩ (newDK_fits 8) (by omega) R2.out (by omega) SV2.out HL2.out ⟨by omega, by simp [newDK]⟩).mono ?_
  rintro e w3 ⟨rfl, c3, u3, s3, ha3, hb3, h3⟩
  have O3 := Lib.hid (O2.out.step s3 (by omega))
  obtain ⟨d3, hd3⟩ : ∃ d, d = ({ newDK 8 with ops := (newDK 8).ops + 1, left := (newDK 8).left - 1, cache := (newDK 8).cache ++ [u3] } : DK) := ⟨_, rfl⟩
  rw [← hd3] at h3
  have D3 := Lib.hid h3
  have H3 : Hid (d3.calm ∧ d3.fits 1 ∧ d3.cache.length = 1 ∧ d3.m = 0 ∧ d3.n = 8 ∧ d3.ops = 1) := Lib.hid (by
    rw [hd3]
    exact ⟨⟨rfl, rfl⟩, ⟨by simp [newDK], by simp [newDK], by simp [newDK], by simp [newDK], by simp [newDK]⟩, by simp [newDK], rfl, rfl, rfl⟩)
  clear s3 h3 ha3 hb3 hd3 O2 D2 R2
  go_wp2_with fail
  refine (flush_calm 1 gd mb d3 1 w3 c3 D3.out H3.out.1 H3.out.2.1 (by omega) (by rw [H3.out.2.2.1, H3.out.2.2.2.1]; omega)).mono ?_
  rintro e w4 ⟨rfl, s4, h4⟩
  have O4 := Lib.hid (O3.out.step s4 (by omega))
  obtain ⟨d4, hd4⟩ : ∃ d, d = ({ d3 with ops := d3.ops + 1, left := d3.left - 1, safe := putAll d3.safe d3.cache, cache := [], m := d3.m + d3.cache.length } : DK) := ⟨_, rfl⟩
  rw [← hd4] at h4
  obtain ⟨v4, V4⟩ := h4
  have HV4 := Lib.hid V4
  have HQ4 : Hid ((cutK d4 n).runs n 0) := Lib.hid (by
    obtain ⟨q1, q2, q3, q4, q5, q6⟩ := H3.out
    rw [hd4]
    refine ⟨rfl, q5, by show d3.ops + 1 = _; rw [q6]; rfl, by show d3.m + d3.cache.length + ([] : List Wr).length ≤ _; rw [q3, q4]; simp, .inl ⟨by omega, q1.2, ?_⟩⟩
    show (if (n : Int) < 0 then (0 : Int) else n) = _
    rw [if_neg (by omega)]
    omega)
  clear s4 V4 hd4 O3 D3
  go_wp2_with fail
  refine (cut_any 1 gd mb v4 d4 n w4 c3 HV4.out).mono ?_
  rintro e w5 ⟨rfl, s5, h5⟩
  have O5 := Lib.hid (O4.out.step s5 (by omega))
  have D5 := Lib.hid (show DiskAt w5 c3 1 gd mb (cutK d4 n) from ⟨_, h5⟩)
  clear s5 h5 O4 HV4
  go_wp2
  go_loopw [7, 8, 9, 10, 11] (fun u7 u8 u9 u10 u11 w' => ∃ (i k : Nat) (d : DK) (col : Nat → Nat), i ≤ len ∧ k ≤ i ∧ u7 = .int .i64 k ∧ u8 = .int .i64 i ∧ Hid (Old w w' col) ∧ Hid (DiskAt w' col 1 gd mb d) ∧ Hid (d.runs n k)) (fun _ u8 _ _ _ _ => len - (intOf u8).toNat)
  case atStart => exact ⟨0, 0, _, c3, by omega, by omega, rfl, rfl, O5, D5, HQ4⟩
  case round =>
    clear O5 D5 HQ4
    obtain ⟨i, k, d, col, hi, hki, rfl, rfl, HO, HD, HP⟩ := hrel
    by_cases hlt : i < len
    · obtain ⟨s, hs⟩ : ∃ s, ss[i]? = some s := ⟨_, List.getElem?_eq_getElem (by rw [← HLEN.out]; exact hlt)⟩
      obtain ⟨ad, rfl, c0, q1, q2⟩ := (HR.out.below HO.out.below).at_ i s hs
      have HC : Hid (∀ X, Below w.heap.size w X → X.cell? (ad.add (i * 3)) = some (.int .i64 s.k) ∧ X.cell? ⟨(ad.add (i * 3)).block, (ad.add (i * 3)).off + 1, none⟩ = some (.int .i64 s.a) ∧ X.cell? ⟨(ad.add (i * 3)).block, (ad.add (i * 3)).off + 2, none⟩ = some (.int .i64 s.n)) := Lib.hid (fun X hX => by
        obtain ⟨ad', e, z0, z1, z2⟩ := (HR.out.below hX).at_ i s hs
        cases e
        exact ⟨z0, z1, z2⟩)
      have HS := Lib.hid (HWF.out s (List.mem_of_getElem? hs))
      obtain ⟨sk, sa, sn⟩ := s
      simp only at c0 q1 q2
      have hwk := HS.out.1
      have hwa := HS.out.2.1
      have hwn := HS.out.2.2
      simp only at hwk hwa hwn
      by_cases h12 : sk = 1 ∨ sk = 2
      · obtain ⟨F, hF⟩ : ∃ F, F = cutsW n k ⟨sk, sa, sn⟩ := ⟨_, rfl⟩
        have HF := Lib.hid hF
        have H12 := Lib.hid h12
        clear hF
        clear h12
        go_upto_region 11 with fail
        go_cut [70] (fun s70 wx => s70 = .bool false ∧ wx = wr)
        case first =>
          rcases H12.out with rfl | rfl
          · go_wp2
            go_meet
            exact ⟨rfl, rfl⟩
          · go_wp2
            go_meet
            exact ⟨rfl, rfl⟩
        case rest =>
          obtain ⟨rfl, rfl⟩ := hcut
          go_upto_if 76 with fail
          go_cut [9] (fun s9 wx => ∃ (col' : Nat → Nat) (d' : DK), s9 = .int .i64 F ∧ Hid (Old w wx col') ∧ Hid (DiskAt wx col' 1 gd mb d') ∧ Hid (d'.runs n (k + 1)))
          case first =>
            by_cases h1 : sk = 1
            · obtain rfl := h1
              obtain ⟨V, hV⟩ : ∃ V, V = wc.drew := ⟨_, rfl⟩
              have hbV : Below wc.heap.size wc V := by rw [hV]; exact bel_drew (Below.refl _ _)
              have OV := Lib.hid (HO.out.grow hbV (fun _ => 0))
              have DV := Lib.hid (HD.out.grow hbV (fun _ => 0))
              obtain ⟨x0, x1, x2⟩ := HC.out V OV.out.below
              clear HO HD hbV c0 q1 q2 x0
              go_wp2_with fail
              refine region_const (G := G7) (S := fun X => X.cell? ⟨(ad.add (i * 3)).block, (ad.add (i * 3)).off + 1, none⟩ = some (.int .i64 sa) ∧ X.cell? ⟨(ad.add (i * 3)).block, (ad.add (i * 3)).off + 2, none⟩ = some (.int .i64 sn)) (n := 14) (by kernel_rfl) (by kernel_rfl) rfl (by rw [← hV]; exact ⟨x1, x2⟩) (fun HG hS0 => ?_)
              have Gns := Gns7
              rw [← hV]
              rw [← hV] at hS0
              clear hV
              simp only [Array.replicate_succ, Array.replicate_zero, List.push_toArray, List.nil_append, List.cons_append]
              refine wpAnyH_take (i := 0) (v := ?_) (o_at HG 0 rfl) Gns (by kernel_rfl) (by kernel_rfl) (fun _ _ _ h => h) (Or.inl ⟨(by kernel_rfl), ?_⟩) (by first | trivial | assumption) ?_
              rotate_left
              · (intro w hSw; (try dsimp only at hSw); go_simp; try with_reducible rfl)
              try simp only [Act.put, List.getElem_toArray, List.getElem_cons_zero, List.getElem_cons_succ, List.setIfInBounds_toArray, List.set_cons_zero, List.set_cons_succ]
              refine wpAnyH_take (i := 1) (v := ?_) (o_at HG 1 rfl) Gns (by kernel_rfl) (by kernel_rfl) (fun _ _ _ h => h) (Or.inl ⟨(by kernel_rfl), ?_⟩) (by first | trivial | assumption) ?_
              rotate_left
              · (intro w hSw; (try dsimp only at hSw); go_simp; try with_reducible rfl)
              try simp only [Act.put, List.getElem_toArray, List.getElem_cons_zero, List.getElem_cons_succ, List.setIfInBounds_toArray, List.set_cons_zero, List.set_cons_succ]
              refine wpAnyH_take (i := 2) (v := ?_) (o_at HG 2 rfl) Gns (by kernel_rfl) (by kernel_rfl) (fun _ _ _ h => h) (Or.inl ⟨(by kernel_rfl), ?_⟩) (by first | trivial | assumption) ?_
              rotate_left
              · (intro w hSw; (try dsimp only at hSw); go_simp; try with_reducible rfl)
              try simp only [Act.put, List.getElem_toArray, List.getElem_cons_zero, List.getElem_cons_succ, List.setIfInBounds_toArray, List.set_cons_zero, List.set_cons_succ]
              refine wpAnyH_take (i := 3) (v := ?_) (o_at HG 3 rfl) Gns (by kernel_rfl) (by kernel_rfl) (fun _ _ _ h => h) (Or.inl ⟨(by kernel_rfl), ?_⟩) (by first | trivial | assumption) ?_
              rotate_left
              · (intro w hSw; (try dsimp only at hSw); go_simp; try with_reducible rfl)
              try simp only [Act.put, List.getElem_toArray, List.getElem_cons_zero, List.getElem_cons_succ, List.setIfInBounds_toArray, List.set_cons_zero, List.set_cons_succ]
              refine wpAnyH_take (i := 4) (v := ?_) (o_at HG 4 rfl) Gns (by kernel_rfl) (by kernel_rfl) (fun _ _ _ h => h) (Or.inl ⟨(by kernel_rfl), ?_⟩) (by first | trivial | assumption) ?_
              rotate_left
              · (intro w hSw; (try dsimp only at hSw); go_simp; try with_reducible rfl)
              try simp only [Act.put, List.getElem_toArray, List.getElem_cons_zero, List.getElem_cons_succ, List.setIfInBounds_toArray, List.set_cons_zero, List.set_cons_succ]
              refine wpAnyH_take (i := 5) (v := ?_) (o_at HG 5 rfl) Gns (by kernel_rfl) (by kernel_rfl) (fun _ _ _ h => h) (Or.inl ⟨(by kernel_rfl), ?_⟩) (by first | trivial | assumption) ?_
              rotate_left
              · (intro w hSw; (try dsimp only at hSw); go_simp; try with_reducible rfl)
              try simp only [Act.put, List.getElem_toArray, List.getElem_cons_zero, List.getElem_cons_succ, List.setIfInBounds_toArray, List.set_cons_zero, List.set_cons_succ]
              refine wpAnyH_take (i := 6) (v := ?_) (o_at HG 6 rfl) Gns (by kernel_rfl) (by kernel_rfl) (fun _ _ _ h => h) (Or.inl ⟨(by kernel_rfl), ?_⟩) (by first | trivial | assumption) ?_
              rotate_left
              · (intro w hSw; (try dsimp only at hSw); go_simp; try with_reducible rfl)
              try simp only [Act.put, List.getElem_toArray, List.getElem_cons_zero, List.getElem_cons_succ, List.setIfInBounds_toArray, List.set_cons_zero, List.set_cons_succ]
              refine wpAnyH_take (i := 7) (v := ?_) (o_at HG 7 rfl) Gns (by kernel_rfl) (by kernel_rfl) (fun _ _ _ h => h) (Or.inl ⟨(by kernel_rfl), ?_⟩) (by first | trivial | assumption) ?_
              rotate_left
              · (intro w hSw; (try dsimp only at hSw); go_simp; try with_reducible rfl)
              try simp only [Act.put, List.getElem_toArray, List.getElem_cons_zero, List.getElem_cons_succ, List.setIfInBounds_toArray, List.set_cons_zero, List.set_cons_succ]
              refine wpAnyH_take (i := 8) (v := ?_) (o_at HG 8 rfl) Gns (by kernel_rfl) (by kernel_rfl) (fun _ _ _ h => h) (Or.inl ⟨(by kernel_rfl), ?_⟩) (by first | trivial | assumption) ?_
              rotate_left
              · (intro w hSw; (try dsimp only at hSw); go_simp; try with_reducible rfl)
              try simp only [Act.put, List.getElem_toArray, List.getElem_cons_zero, List.getElem_cons_succ, List.setIfInBounds_toArray, List.set_cons_zero, List.set_cons_succ]
              refine wpAnyH_take (i := 9) (v := ?_) (o_at HG 9 rfl) Gns (by kernel_rfl) (by kernel_rfl) (fun _ _ _ h => h) (Or.inl ⟨(by kernel_rfl), ?_⟩) (by first | trivial | assumption) ?_
              rotate_left
              · (intro w hSw; (try dsimp only at hSw); go_simp; try with_reducible rfl)
              try simp only [Act.put, List.getElem_toArray, List.getElem_cons_zero, List.getElem_cons_succ, List.setIfInBounds_toArray, List.set_cons_zero, List.set_cons_succ]
              refine wpAnyH_take (i := 10) (v := ?_) (o_at HG 10 rfl) Gns (by kernel_rfl) (by kernel_rfl) (fun _ _ _ h => h) (Or.inl ⟨(by kernel_rfl), ?_⟩) (by first | trivial | assumption) ?_
              rotate_left
              · (intro w hSw; (try dsimp only at hSw); go_simp; try with_reducible rfl)
              try simp only [Act.put, List.getElem_toArray, List.getElem_cons_zero, List.getElem_cons_succ, List.setIfInBounds_toArray, List.set_cons_zero, List.set_cons_succ]
              refine wpAnyH_ready (rs := [11]) (by kernel_rfl) (by simp) ?_
              refine AllReadyH.cons (o_at HG 11 rfl) ?_ (AllReadyH.nil)
              · intro K' hK
                rw [if_pos (by kernel_rfl)]
                go_simp
                (with_reducible refine (blkS_any _ _).mono ?_)
                rintro e X1 ⟨A9, k9, rfl, hsv9, hrb9, hfr9, hb9⟩
                have O9 := Lib.hid (OV.out.grow hb9 (fun _ => 0))
                have D9 := Lib.hid (DV.out.grow hb9 (fun _ => 0))
                obtain ⟨B9, hB9⟩ : ∃ B, B = blk 64 sn := ⟨_, rfl⟩
                rw [← hB9] at hrb9
                have HL9 := Lib.hid (show B9.length = 64 by rw [hB9]; exact blk_length _ _)
                have R9 := Lib.hid (RC.new (col := paint wc col (fun _ => 0)) 0 hrb9 hfr9)
                obtain ⟨-, x91, x92⟩ := HC.out X1 O9.out.below
                refine hK.out _ _ ⟨x91, x92⟩ (fun hS1 => ?_)
                have SV9 := Lib.hid hsv9
                clear hsv9 hrb9 hb9 hfr9 hB9
                try simp only [Act.put, List.getElem_toArray, List.getElem_cons_zero, List.getElem_cons_succ, List.setIfInBounds_toArray, List.set_cons_zero, List.set_cons_succ]
                refine wpAnyH_ready (rs := [12]) (by kernel_rfl) (by simp) ?_
                refine AllReadyH.cons (o_at HG 12 rfl) ?_ (AllReadyH.nil)
                · intro K' hK
                  rw [if_pos (by kernel_rfl)]
                  go_simp
                  (with_reducible refine (write_64 1 gd mb d (k + 2) _ A9 k9 0 B9 X1 _ D9.out (runs_fits HP.out hn) (by omega) R9.out (by omega) SV9.out HL9.out).mono ?_)
                  rintro e X2 ⟨he, c10, A10, k10, s10, h10⟩
                  have hru := runs_write HP.out ⟨1, sa, sn⟩ rfl ⟨sa, B9, A10, k10⟩ rfl HL9.out
                  rw [hru.2, ← HF.out] at he
                  subst he
                  have H10 := Lib.hid hru.1
                  have O10 := Lib.hid (O9.out.step s10 (by omega))
                  have D10 := Lib.hid h10
                  obtain ⟨-, x91, x92⟩ := HC.out X2 O10.out.below
                  refine hK.out _ _ ⟨x91, x92⟩ (fun hS2 => ?_)
                  clear hru s10 h10
                  try simp only [Act.put, List.getElem_toArray, List.getElem_cons_zero, List.getElem_cons_succ, List.setIfInBounds_toArray, List.set_cons_zero, List.set_cons_succ]
                  refine wpAnyH_take (i := 13) (v := ?_) (o_at HG 13 rfl) Gns (by kernel_rfl) (by kernel_rfl) (fun _ _ _ h => h) (Or.inl ⟨(by kernel_rfl), ?_⟩) (by first | trivial | assumption) ?_
                  rotate_left
                  · (intro w hSw; (try dsimp only at hSw); go_simp; try with_reducible rfl)
                  try simp only [Act.put, List.getElem_toArray, List.getElem_cons_zero, List.getElem_cons_succ, List.setIfInBounds_toArray, List.set_cons_zero, List.set_cons_succ]
                  refine wpAnyH_done (by kernel_rfl) ?_ _
                  clear hS0 hS1 hS2 x91 x92
                  go_wp2
                  go_meet
                  exact ⟨_, _, rfl, O10, D10, H10⟩
            · obtain rfl : sk = 2 := by have := H12.out; omega
              have hfl := flush_any 1 gd mb d (k + 2) wc col HD.out (runs_fits HP.out hn) (by omega) (by have := HP.out.2.2.2.1; omega)
              have HFL := Lib.hid hfl
              clear hfl HD
              go_wp2_with fail
              refine HFL.out.mono ?_
              rintro e w6 ⟨he, s6, h6⟩
              rw [(runs_flush HP.out ⟨2, sa, sn⟩ (by simp)).2, ← HF.out] at he
              subst he
              have O6 := Lib.hid (HO.out.step s6 (by omega))
              have D6 := Lib.hid h6
              clear s6 h6 HO HFL
              go_wp2
              go_meet
              exact ⟨_, _, rfl, O6, D6, Lib.hid (runs_flush HP.out ⟨2, sa, sn⟩ (by simp)).1⟩
          case rest =>
            obtain ⟨col', d', rfl, O6, D6, H6⟩ := hcut
            obtain ⟨x0, x1, x2⟩ := HC.out wc O6.out.below
            go_upto_region 17 with fail
            go_cut [10] (fun s10 wx => ∃ bb : Bool, s10 = .bool bb ∧ (bb = true ↔ sk = 1 ∧ (sa < 0 ∨ 8 ≤ sa)) ∧ wx = wc)
            case first =>
              by_cases h1 : sk = 1
              · by_cases h2 : sa < 0
                · go_wp2
                  go_meet
                  exact ⟨true, rfl, by simp; omega, rfl⟩
                · have h2b : decide (sa < 0) = false := by simp; omega
                  by_cases h3 : 8 ≤ sa
                  · go_wp2
                    go_meet
                    exact ⟨true, rfl, by simp; omega, rfl⟩
                  · go_wp2
                    go_meet
                    exact ⟨false, rfl, by simp; omega, rfl⟩
              · go_wp2
                go_meet
                exact ⟨false, rfl, by simp; omega, rfl⟩
            case rest =>
              obtain ⟨bb, rfl, hbb, e⟩ := hcut
              cases e
              have HBB := Lib.hid hbb
              clear hbb
              go_upto_block 2 with fail
              go_cut [11] (fun s11 wx => s11 = .int .i64 F ∧ wx = wc)
              case first =>
                by_cases h1 : n < k + 1
                · have h1b : decide ((n : Int) < (k : Int) + 1) = true := by simp; omega
                  have HE : Hid (F = 7) := Lib.hid (by rw [HF.out]; unfold cutsW; rw [if_pos h1])
                  go_wp2
                  go_meet
                  exact ⟨int_eq HE.out.symm, rfl⟩
                · have h1b : decide ((n : Int) < (k : Int) + 1) = false := by simp; omega
                  have HN := Lib.hid h1
                  clear h1
                  cases bb with
                  | true =>
                    have HE : Hid (F = 1) := Lib.hid (by rw [HF.out]; unfold cutsW; rw [if_neg HN.out, if_pos (HBB.out.1 rfl)])
                    go_wp2
                    go_meet
                    exact ⟨int_eq HE.out.symm, rfl⟩
                  | false =>
                    have HE : Hid (F = 0) := Lib.hid (by rw [HF.out]; unfold cutsW; rw [if_neg HN.out, if_neg (fun h => by cases HBB.out.2 h)])
                    go_wp2
                    go_meet
                    exact ⟨int_eq HE.out.symm, rfl⟩
              case rest =>
                obtain ⟨rfl, e⟩ := hcut
                cases e
                have hFF : (F != F) = false := by simp
                go_wp2
                go_roundw
                case rel => exact ⟨i + 1, k + 1, d', col', by omega, by omega, by go_num, by go_num, O6, D6, H6⟩
                case measure => simp [intOf]; omega
      · have e1 : (sk != 1) = true := by simp; omega
        have e2 : (sk != 2) = true := by simp; omega
        clear h12
        go_wp2
        go_roundw
        case rel => exact ⟨i + 1, k, d, col, by omega, by omega, rfl, by go_num, HO, HD, HP⟩
        case measure => simp [intOf]; omega
    · obtain rfl : i = len := by omega
      obtain ⟨v6, V6⟩ := HD.out
      have hcl6 : d.cache.length ≤ 50 := by have := HP.out.2.2.2.1; omega
      have hm6 : d.m ≤ 50 := by have := HP.out.2.2.2.1; omega
      have hcr := crash_walk 1 2 gd mb v6 d none 0 [] wr col V6 (fun _ _ _ => RI.nil _ _) (by omega) (by omega) (by omega) (by omega) (by simp)
      have HCR := Lib.hid hcr
      have HV6 := Lib.hid V6
      have hcm := liveK_len (pickK [] 0) d.cache d.cache.length
      have HCM := Lib.hid (show d.m + (liveK (pickK [] 0) d.cache d.cache.length).length ≤ 1000 by omega)
      clear hcr V6 hcm hcl6 hm6
      go_wp2_with fail
      refine HCR.out.mono ?_
      rintro e w7 ⟨gc, mc, fc, c7, rfl, s7, h7, -⟩
      have O7 := Lib.hid (HO.out.step s7 (by omega))
      have HV7 := Lib.hid (HV6.out.step s7 (by omega) (by omega))
      have hops := ops_any gd mb v6 d w7 HV7.out.obj
      rw [HP.out.2.2.1] at hops
      have HOPS := Lib.hid hops
      obtain ⟨dC, hdC⟩ : ∃ e, e = (⟨d.n, fc, [], false, false, 0, 0, d.m + (liveK (pickK [] 0) d.cache d.cache.length).length⟩ : DK) := ⟨_, rfl⟩
      rw [← hdC] at h7
      have D7 := Lib.hid h7
      have H7 : Hid (dC.calm ∧ dC.fits 0 ∧ dC.cache = [] ∧ dC.m ≤ 1000 ∧ dC.n = 8 ∧ dC.ops = 0) := Lib.hid (by
        rw [hdC]
        exact ⟨⟨rfl, rfl⟩, ⟨by simp, by simp, by simp, by simp, by simp⟩, rfl, HCM.out, HP.out.2.1, rfl⟩)
      clear s7 h7 hdC HO HD HCR HV6 hops
      go_wp2_with fail
      refine HOPS.out.mono ?_
      rintro e w' ⟨rfl, rfl⟩
      have hko : ((k : Int) + 2 != (k : Int) + 2) = false := by simp
      go_wp2_with fail
      refine (read_use 1 gd mb d 7 w7 c7 ⟨_, HV7.out⟩ ⟨by omega, by rw [HP.out.2.1]; omega⟩ (by have := HP.out.2.2.2.1; omega) _ rfl).mono ?_
      rintro e w8 ⟨A8, k8, rfl, sv8, rb8, hl8, hb8⟩
      have O8 := Lib.hid (O7.out.grow hb8 (fun _ => 0))
      have D8 := Lib.hid (D7.out.grow hb8 (fun _ => 0))
      clear sv8 rb8 hl8 hb8 O7 D7 HV7
      go_wp2_with fail
      refine (blkS_any 1 w8).mono ?_
      rintro e w9 ⟨A9, k9, rfl, sv9, rb9, fr9, hb9⟩
      obtain ⟨B9, hB9⟩ : ∃ B, B = blk 64 1 := ⟨_, rfl⟩
      rw [← hB9] at rb9
      have HL9 := Lib.hid (show B9.length = 64 by rw [hB9]; exact blk_length _ _)
      have O9 := Lib.hid (O8.out.grow hb9 (fun _ => 0))
      have D9 := Lib.hid (D8.out.grow hb9 (fun _ => 0))
      have R9 := Lib.hid (RC.new (col := paint w7 c7 (fun _ => 0)) 0 rb9 fr9)
      have SV9 := Lib.hid sv9
      clear sv9 rb9 fr9 hb9 hB9 O8 D8
      go_wp2_with fail
      refine (write_calm 2 gc mc dC 0 0 A9 k9 0 B9 w9 _ D9.out H7.out.1 H7.out.2.1 (by omega) R9.out (by omega) SV9.out HL9.out ⟨by omega, by rw [H7.out.2.2.2.2.1]; omega⟩).mono ?_
      rintro e w10 ⟨rfl, c10, u10, s10, -, -, h10⟩
      have O10 := Lib.hid (O9.out.step s10 (by omega))
      obtain ⟨dE, hdE⟩ : ∃ d, d = ({ dC with ops := dC.ops + 1, left := dC.left - 1, cache := dC.cache ++ [u10] } : DK) := ⟨_, rfl⟩
      rw [← hdE] at h10
      have D10 := Lib.hid h10
      have H10 : Hid (dE.calm ∧ dE.fits 1 ∧ dE.cache.length = 1 ∧ dE.m ≤ 1000 ∧ dE.ops = 1) := Lib.hid (by
        obtain ⟨q1, ⟨f1, f2, f3, f4, f5⟩, q3, q4, q5, q6⟩ := H7.out
        rw [hdE]
        exact ⟨q1, ⟨by show -((1 : Nat) : Int) ≤ dC.left - 1; omega, by show dC.left - 1 ≤ _; omega, by show 0 ≤ dC.ops + 1; omega, by show dC.ops + 1 ≤ ((1 : Nat) : Int); omega, by simp; omega⟩, by simp [q3], q4, by show dC.ops + 1 = 1; omega⟩)
      clear s10 h10 hdE O9 D9 R9
      go_wp2_with fail
      refine (flush_calm 2 gc mc dE 1 w10 c10 D10.out H10.out.1 H10.out.2.1 (by omega) (by have := H10.out.2.2.2.1; rw [H10.out.2.2.1]; omega)).mono ?_
      rintro e w11 ⟨rfl, s11, h11⟩
      have O11 := Lib.hid (O10.out.step s11 (by omega))
      obtain ⟨v11, V11⟩ := h11
      have hop2 := ops_any gc mc v11 _ w11 V11.obj
      have HOP2 := Lib.hid (show Calls Try.prog 33 #[.pointer (some ⟨gc, 0, none⟩)] w11 fun e w' => e = .returned (.int .i64 2) ∧ w11 = w' from by
        refine hop2.mono ?_
        rintro e w' ⟨rfl, rfl⟩
        refine ⟨?_, rfl⟩
        show Ending.returned (.int .i64 (dE.ops + 1)) = _
        rw [H10.out.2.2.2.2]
        rfl)
      clear s11 V11 hop2 O10 D10
      go_wp2_with fail
      refine HOP2.out.mono ?_
      rintro e w' ⟨rfl, rfl⟩
      go_wp2_with fail
      refine (awake_any w11).mono ?_
      rintro e w12 ⟨rfl, hb12⟩
      have HEND := Lib.hid (bel_then O11.out.below hb12)
      clear hb12
      go_wp2
      go_ret
      exact ⟨rfl, HEND.out⟩
set_option maxRecDepth 100000 in
theorem cuts_main (n : Int) (A : Option Addr) (c : Nat) (ss : List S3) (w : World) (hr : RT w A ss) (hwf : ∀ s ∈ ss, s.wf) :
    Calls Try.prog 7 #[.int .i64 n, .slice A ss.length c] w fun e w' => e = .returned (.bool true) ∧ Below w.heap.size w w' := by
  by_cases h : 0 ≤ n ∧ n ≤ 40 ∧ ss.length ≤ 40
  · obtain ⟨m, rfl⟩ := Int.eq_ofNat_of_zero_le h.1
    exact cuts_walk m A c ss w hr (by omega) h.2.2 hwf
  · obtain ⟨m, hm⟩ : ∃ m, ss.length = m := ⟨_, rfl⟩
    rw [hm] at h ⊢
    have hz : (decide (n < 0) || (decide (40 < n) || (decide (40 < (m : Int))))) = true := by
      simp only [Bool.or_eq_true, decide_eq_true_eq]
      omega
    clear h hm hr hwf
    cases h1 : decide (n < 0) with
    | true =>
      clear hz
      go_enter Try.func7, Try.ntmps7
      go_wp2_with fail
      refine (awake_any w).mono ?_
      rintro e w1 ⟨rfl, hb⟩
      have HB := Lib.hid hb
      clear hb
      go_wp2
      go_ret
      exact ⟨rfl, HB.out⟩
    | false =>
      rw [h1, Bool.false_or] at hz
      cases h2 : decide (40 < n) with
      | true =>
        clear hz
        go_enter Try.func7, Try.ntmps7
        go_wp2_with fail
        refine (awake_any w).mono ?_
        rintro e w1 ⟨rfl, hb⟩
        have HB := Lib.hid hb
        clear hb
        go_wp2
        go_ret
        exact ⟨rfl, HB.out⟩
      | false =>
        rw [h2, Bool.false_or] at hz
        go_enter Try.func7, Try.ntmps7
        go_wp2_with fail
        refine (awake_any w).mono ?_
        rintro e w1 ⟨rfl, hb⟩
        have HB := Lib.hid hb
        clear hb
        go_wp2
        go_ret
        exact ⟨rfl, HB.out⟩
end Go.Proofs.Ytdldclakkplliaa
