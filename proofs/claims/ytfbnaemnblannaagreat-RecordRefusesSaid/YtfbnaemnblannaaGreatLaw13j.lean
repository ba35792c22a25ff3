/- Chapter 13: RecordRefuses. -/
import Derived.Test.YtfbnaemnblannaaGreatU9
set_option linter.unusedSimpArgs false
set_option linter.unusedVariables false
namespace Go.Esc
open Go Go.RowKit
theorem bndU8' {n : Int} (h : (Lit.int .u8 n).wf = true) : 0 ≤ n ∧ n ≤ 255 := by
  simp [Lit.wf, IntKind.min, IntKind.max, IntKind.signed, IntKind.bits] at h
  omega
theorem u8_of' {n : Int} (h : 0 ≤ n ∧ n ≤ 255) : ∃ c : UInt8, n = (c.toNat : Int) := ⟨UInt8.ofNat n.toNat, by simp; omega⟩
theorem index_of (a : Int) (L : Nat) (h0 : 0 < L) (h : L ≤ 100000) : ∃ i : Nat, ∃ r : Int, a.tmod L = r ∧ -(L : Int) < r ∧ r < L ∧ IntKind.i64.wrap (r + L) = r + L ∧ (r + L).tmod L = i ∧ i < L := by
  have hr1 : -(L : Int) < a.tmod L := Int.lt_tmod_of_pos a (by omega)
  have hr2 : a.tmod L < L := Int.tmod_lt_of_pos a (by omega)
  have h5 : 0 ≤ (a.tmod L + L) := by omega
  have h6 : (a.tmod L + (L : Int)).tmod L = (a.tmod L + L) % L := Int.tmod_eq_emod_of_nonneg h5
  have h7 := Int.emod_nonneg (a.tmod L + L) (show (L : Int) ≠ 0 by omega)
  have h8 := Int.emod_lt_of_pos (a.tmod L + L) (show (0 : Int) < L by omega)
  refine ⟨((a.tmod L + L) % L).toNat, _, rfl, hr1, hr2, by rw [IntKind.wrap_i64]; omega, ?_, by omega⟩
  rw [h6]; omega
end Go.Esc
namespace Go.Proofs.YtfbnaemnblannaaGreat
open Go.RowKit Go.Esc
theorem padL_ge {b p : Bs} (h : padL b = some p) : 32 ≤ p.length := by
  unfold padL at h
  cases hs : padSize (b.length : Int) with
  | none => rw [hs] at h; cases h
  | some s =>
    rw [hs] at h
    simp only [Option.map_some, Option.some.injEq] at h
    have h2 := padSize_some hs
    have h3 : 32 ≤ s := by
      unfold padSize at hs
      split at hs
      · cases hs
      · repeat' split at hs
        all_goals first | cases hs | skip
        all_goals omega
    rw [← h]
    simp [putB_length]
    omega
theorem set_take8 (s : Bs) (j : Nat) (v : UInt8) (h : 8 ≤ j) : (s.set j v).take 8 = s.take 8 := by
  apply List.ext_getElem?
  intro k
  by_cases hk : k < 8
  · rw [List.getElem?_take, List.getElem?_take, if_pos hk, if_pos hk, List.getElem?_set_ne (by omega)]
  · rw [List.getElem?_take, List.getElem?_take, if_neg hk, if_neg hk]
theorem beN_ff (s : Bs) (h : 8 ≤ s.length) : 400 ≤ beN (([255] ++ s.drop 1).take 8) := by
  match s, h with
  | a :: b :: c :: d :: e :: f :: g :: i :: r, _ =>
    simp only [List.drop_succ_cons, List.drop_zero, List.cons_append, List.nil_append, List.take_succ_cons, List.take_zero, beN, List.foldl_cons, List.foldl_nil]
    have : (255 : UInt8).toNat = 255 := rfl
    omega
set_option maxRecDepth 100000 in
set_option maxHeartbeats 3200000 in
theorem recordRefuses_walk (s0 : ByteArray) (hs0 : s0.size ≤ maxLen) (s1 : ByteArray) (_ : s1.size ≤ maxLen) (at' : Int) (_ : (Lit.int .i64 at').wf = true) (by' : Int) (hby : (Lit.int .u8 by').wf = true) (w : World) :
    Calls Tryz.prog 3 #[.string s0, .string s1, .int .i64 at', .int .u8 by'] w fun e w' => e = .returned (.bool true) ∧ Pu w w' := by
  obtain ⟨k0, rfl⟩ : ∃ a, s0 = bs a := ⟨_, bs_eta s0⟩
  obtain ⟨b, rfl⟩ : ∃ c, s1 = bs c := ⟨_, bs_eta s1⟩
  have hk0 : k0.length ≤ 9223372036854775807 := by rw [bs_size] at hs0; unfold maxLen at hs0; omega
  obtain ⟨y, rfl⟩ := u8_of' (bndU8' hby)
  clear hs0 hby
  by_cases g2 : 200 < b.length
  · have q1 : (200 : Int) < b.length := by omega
    go_enter Tryz.func3, Tryz.ntmps3
    go_wp2_with (go_at_call 4; refine (alive13 _).mono ?_; rintro e w1 ⟨rfl, hp1⟩)
    go_ret
    exact ⟨rfl, hp1⟩
  have q1 : ¬ (200 : Int) < b.length := by omega
  by_cases hy : y.toNat = 0
  · have q2 : ((y.toNat : Int) == 0) = true := by simp; omega
    have q3 : (y.toNat : Int) = 0 := by omega
    go_enter Tryz.func3, Tryz.ntmps3
    go_wp2_with (go_at_call 4; refine (alive13 _).mono ?_; rintro e w1 ⟨rfl, hp1⟩)
    go_ret
    exact ⟨rfl, hp1⟩
  have q2 : ((y.toNat : Int) == 0) = false := by simp; omega
  have q3 : ¬ (y.toNat : Int) = 0 := by omega
  obtain ⟨pp, hpp⟩ := padL_short (p := b) (by omega)
  have hfl := fun w => fillAny k0 32 hk0 (by decide) w
  have hkl := fillL_length k0 32
  obtain ⟨key, hkey⟩ : ∃ k, k = fillL k0 32 := ⟨_, rfl⟩
  rw [← hkey] at hfl hkl
  have hrl := recL_le key 0 hpp
  have hge := padL_ge hpp
  have hlen := recL_length key 0 b
  rw [hpp] at hlen
  simp only [Option.getD_some] at hlen
  have hnum := recL_num key 0 b (by decide)
  have hform := recL_form key 0 b (by decide)
  have hord := openS_ord key 0 b pp hkl hpp (by decide)
  obtain ⟨s, hs⟩ : ∃ s, s = recL key 0 b := ⟨_, rfl⟩
  rw [← hs] at hrl hlen hnum hform hord
  obtain ⟨L, hL⟩ : ∃ L, L = s.length := ⟨_, rfl⟩
  obtain ⟨D, hD⟩ : ∃ D, D + 8 = L := ⟨L - 8, by omega⟩
  have hLb : 56 ≤ L ∧ L ≤ 2072 := by omega
  obtain ⟨i, r, r0, r1, r2, r3, r4, hi⟩ := index_of at' D (by omega) (by omega)
  obtain ⟨j, hj⟩ : ∃ j, j = 8 + i := ⟨_, rfl⟩
  have hjL : j < s.length := by omega
  obtain ⟨x, hx⟩ : ∃ x, s[j]'hjL = x := ⟨_, rfl⟩
  obtain ⟨v, hv⟩ : ∃ v, v = x ^^^ y := ⟨_, rfl⟩
  have hxv : Go.bits .xor .u8 (x.toNat : Int) (y.toNat : Int) = (v.toNat : Int) := by rw [xor_val, hv]
  obtain ⟨m2, hm2⟩ : ∃ m2, m2 = s.set j v := ⟨_, rfl⟩
  have hm2l : m2.length = L := by rw [hm2, List.length_set]; exact hL.symm
  have ht8 : m2.take 8 = s.take 8 := by rw [hm2]; exact set_take8 s j v (by omega)
  have hnum2 : beN (m2.take 8) = 0 := by rw [ht8]; exact hnum
  have hform2 : ¬ badForm m2 := by unfold badForm; rw [hnum2]; omega
  have hun := fun w => refUnrecord key m2 hkl (by omega) w
  have hunr : unrecR key m2 = match plainL key 0 m2 with
      | none => (0, [], 3)
      | some t => (0, t, 0) := by unfold unrecR; rw [if_neg hform2, hnum2]; cases plainL key 0 m2 <;> rfl
  have hfew : openS key (inOrd 0) (s.take 23) = (2, [], inOrd 0) := by unfold openS; rw [if_pos (.inl (by simp; omega))]
  have hfar : openS key (inOrd 0) (255 :: s.drop 1) = (2, [], inOrd 0) := by unfold openS; rw [if_pos (.inr (beN_ff s (by omega)))]
  have w0 : IntKind.i64.wrap ((L : Int) - 8) = D := by rw [IntKind.wrap_i64]; omega
  have w1 : ((D : Int) == 0) = false := by simp; omega
  have w2 : ¬ ((D : Int) = 0) := by omega
  have w3 : IntKind.i64.wrap (r + (L : Int)) = r + L := by rw [IntKind.wrap_i64]; omega
  have w4 : IntKind.i64.wrap (r + (L : Int) - 8) = r + D := by rw [IntKind.wrap_i64]; omega
  have w5 : IntKind.i64.wrap (8 + (i : Int)) = j := by rw [IntKind.wrap_i64]; omega
  have w6 : (0 : Int) ≤ j := by omega
  have w7 : (j : Int) < L := by omega
  have w8 : (23 : Int) ≤ L := by omega
  have w9 : (1 : Int) ≤ L := by omega
  have w10 : ¬ (L : Int) < 32 := by omega
  have hset := hm2.symm
  have hLs := hL.symm
  obtain ⟨tl, htl0⟩ : ∃ tl, tl = s.drop 1 := ⟨_, rfl⟩
  have htl : (List.take L s).tail = tl := by rw [hL, List.take_of_length_le (Nat.le_refl _), htl0]; simp
  have htll : tl.length = L - 1 := by rw [htl0, List.length_drop, ← hL]
  have k255 : (ByteArray.mk #[255]) = bs [255] := rfl
  rw [← htl0] at hfar
  clear htl0
  have HSET := Lib.hid hset
  have HTL := Lib.hid hm2l
  have HF := Lib.hid hfl
  have HPP := Lib.hid hpp
  have HKL := Lib.hid hkl
  have HS := Lib.hid hs
  have HORD := Lib.hid hord
  have HFEW := Lib.hid hfew
  have HFAR := Lib.hid hfar
  have HF2 := Lib.hid hform2
  have HN2 := Lib.hid hnum2
  have z9 : ¬ (9223372036854775807 < 1 + tl.length) := by omega
  cases hpl : plainL key 0 m2 with
  | some tx =>
    rw [hpl] at hunr
    simp only at hunr
    rw [hunr] at hun
    have HUN := Lib.hid hun
    clear hun hunr hpl hset hm2l hfl hpp hkl hs hord hfew hfar hform2 hnum2 hkey hge hlen hnum hform ht8 hm2 hv hL hj
    go_enter Tryz.func3, Tryz.ntmps3
    go_wp2_with (first
      | (go_at_call 4; refine (alive13 _).mono ?_; rintro e u1 ⟨rfl, hp1⟩)
      | (go_at_call 5; refine (HF.out _).mono ?_; rintro e u2 ⟨rfl, rfl⟩)
      | (go_at_call 6; refine (newOut key HKL.out _).mono ?_; rintro e u3 ⟨ob, rfl, ho3, hp3⟩)
      | (go_at_call 7; refine (newIn key HKL.out _).mono ?_; rintro e u4 ⟨ib, rfl, hi4, hp4⟩
         have oi4 := OI.start (hp1.trans hp3) hp1 hp3 ho3 hi4 hp4)
      | (go_at_call 8; refine (oiSeal oi4 HKL.out b _ HPP.out (by decide) (by decide) (by omega)).mono ?_; rw [← HS.out]; rintro e u5 ⟨rfl, oi5, hc5⟩)
      | (refine wpList_bytes _ rfl (.tmp 62) 9 31 5 rfl s (by first | rfl | simp [Act.eval]) Tryz.underlying9 Tryz.underlying31 Tryz.underlying5 ?_; intro u6 cap hrow hpu hcap; have hc := hrow.byte j hjL; rw [hx] at hc; have hf := hrow.frozen j (by rw [cells_length]; omega); have hrw := hrow.set j (.int .u8 (v.toNat : Int)); rw [cells_set, HSET.out] at hrw; have hcv := Row.conv (P := Tryz.prog) (cap := cap) (n := L) 31 9 hrw HTL.out.symm Tryz.underlying31 Tryz.underlying5 Tryz.underlying9)
      | (go_at_call 9; refine (HUN.out _).mono ?_; simp only [trip]; rintro e u7 ⟨rfl, hp7⟩))
    go_ret
    exact ⟨rfl, (oi5.since.trans (hpu.setCell (Nat.le_refl _) _)).trans hp7⟩
  | none =>
    have hbad : openS key (inOrd 0) m2 = (3, [], inOrd 0) := by
      unfold openS
      rw [if_neg hform2, hnum2]
      simp only
      rw [if_neg (by simp [inOrd]), hpl]
    rw [hpl] at hunr
    simp only at hunr
    rw [hunr] at hun
    have HUN := Lib.hid hun
    have HBAD := Lib.hid hbad
    have T1 := Lib.hid True.intro
    have T2 := Lib.hid True.intro
    have T3 := Lib.hid True.intro
    clear hun hunr hpl hset hm2l hfl hpp hkl hs hord hfew hfar hform2 hnum2 hkey hge hlen hnum hform ht8 hm2 hv hL hj hbad
    go_enter Tryz.func3, Tryz.ntmps3
    go_wp2_with (first
      | (go_at_call 4; refine (alive13 _).mono ?_; rintro e u1 ⟨rfl, hp1⟩)
      | (go_at_call 5; refine (HF.out _).mono ?_; rintro e u2 ⟨rfl, rfl⟩)
      | (go_at_call 6; refine (newOut key HKL.out _).mono ?_; rintro e u3 ⟨ob, rfl, ho3, hp3⟩)
      | (go_at_call 7; refine (newIn key HKL.out _).mono ?_; rintro e u4 ⟨ib, rfl, hi4, hp4⟩
         have oi4 := OI.start (hp1.trans hp3) hp1 hp3 ho3 hi4 hp4)
      | (go_at_call 8; refine (oiSeal oi4 HKL.out b _ HPP.out (by decide) (by decide) (by omega)).mono ?_; rw [← HS.out]; rintro e u5 ⟨rfl, oi5, hc5⟩)
      | (refine wpList_bytes _ rfl (.tmp 62) 9 31 5 rfl s (by first | rfl | simp [Act.eval]) Tryz.underlying9 Tryz.underlying31 Tryz.underlying5 ?_; intro u6 cap hrow hpu hcap; have hc := hrow.byte j hjL; rw [hx] at hc; have hf := hrow.frozen j (by rw [cells_length]; omega); have hrw := hrow.set j (.int .u8 (v.toNat : Int)); rw [cells_set, HSET.out] at hrw; have hcv := Row.conv (P := Tryz.prog) (cap := cap) (n := L) 31 9 hrw HTL.out.symm Tryz.underlying31 Tryz.underlying5 Tryz.underlying9)
      | (go_at_call 9; refine (HUN.out _).mono ?_; simp only [trip]; rintro e u7 ⟨rfl, hp7⟩; have hcv2 := Row.conv (P := Tryz.prog) (cap := cap) (n := L) 31 9 (hrw.pu hp7) HTL.out.symm Tryz.underlying31 Tryz.underlying5 Tryz.underlying9; have oi7 := oi5.pu (Pu.trans (hpu.setCell (Nat.le_refl _) _) hp7))
      | (go_at_call 10; clear T1; refine (oiOpen oi7 HKL.out m2 (by decide) (by have := HTL.out; omega)).mono ?_; rw [HBAD.out]; rintro e u8 ⟨v8, rfl, ho8, oi8, hc8⟩; change World.ownsRow _ _ _ 1 v8 0 _ at ho8; obtain ⟨a8, q8, rfl, -⟩ := own_slice ho8)
      | (go_at_call 10; clear T2; refine (oiOpen oi8 HKL.out (s.take 23) (by decide) (by simp; omega)).mono ?_; rw [HFEW.out]; rintro e u9 ⟨v9, rfl, ho9, oi9, hc9⟩; change World.ownsRow _ _ _ 1 v9 0 _ at ho9; obtain ⟨a9, q9, rfl, -⟩ := own_slice ho9)
      | (go_at_call 10; clear T3; refine (oiOpen oi9 HKL.out (255 :: tl) (by decide) (by simp; omega)).mono ?_; rw [HFAR.out]; rintro e u10 ⟨v10, rfl, ho10, oi10, hc10⟩; change World.ownsRow _ _ _ 1 v10 0 _ at ho10; obtain ⟨a10, q10, rfl, -⟩ := own_slice ho10)
      | (go_at_call 10; refine (oiOpen oi10 HKL.out s (by decide) (by omega)).mono ?_; rw [HORD.out]; rintro e u11 ⟨v11, rfl, ho11, oi11, hc11⟩; change World.ownsRow _ _ _ 1 v11 1 _ at ho11; obtain ⟨g11, q11, rfl, -, -⟩ := own_form ho11 (by decide); have ce := ho11.cellAt 0 (by decide); simp at ce))
    go_ret
    exact ⟨rfl, oi11.since⟩
end Go.Proofs.YtfbnaemnblannaaGreat
