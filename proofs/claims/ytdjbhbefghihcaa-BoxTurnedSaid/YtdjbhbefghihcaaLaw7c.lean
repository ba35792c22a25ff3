/- Chapter 7: BoxTurned. -/
import Derived.Test.YtdjbhbefghihcaaLaw7b
set_option linter.unusedSimpArgs false
set_option linter.unusedVariables false
namespace Go.Esc
open Go Go.RowKit
theorem bndU8' {n : Int} (h : (Lit.int .u8 n).wf = true) : 0 ≤ n ∧ n ≤ 255 := by
  simp [Lit.wf, IntKind.min, IntKind.max, IntKind.signed, IntKind.bits] at h
  omega
theorem u8_of' {n : Int} (h : 0 ≤ n ∧ n ≤ 255) : ∃ c : UInt8, n = (c.toNat : Int) := ⟨UInt8.ofNat n.toNat, by simp; omega⟩
theorem index_of (a : Int) (L : Nat) (h0 : 0 < L) (h : L ≤ 1000) : ∃ i : Nat, ∃ r : Int, a.tmod L = r ∧ -(L : Int) < r ∧ r < L ∧ IntKind.i64.wrap (r + L) = r + L ∧ (r + L).tmod L = i ∧ i < L := by
  have hr1 : -(L : Int) < a.tmod L := Int.lt_tmod_of_pos a (by omega)
  have hr2 : a.tmod L < L := Int.tmod_lt_of_pos a (by omega)
  have h5 : 0 ≤ (a.tmod L + L) := by omega
  have h6 : (a.tmod L + (L : Int)).tmod L = (a.tmod L + L) % L := Int.tmod_eq_emod_of_nonneg h5
  have h7 := Int.emod_nonneg (a.tmod L + L) (show (L : Int) ≠ 0 by omega)
  have h8 := Int.emod_lt_of_pos (a.tmod L + L) (show (0 : Int) < L by omega)
  refine ⟨((a.tmod L + L) % L).toNat, _, rfl, hr1, hr2, by rw [IntKind.wrap_i64]; omega, ?_, by omega⟩
  rw [h6]; omega
end Go.Esc
namespace Go.Proofs.Ytdjbhbefghihcaa
open Go.RowKit Go.Esc
set_option maxRecDepth 100000 in
set_option maxHeartbeats 6400000 in
theorem boxTurned_walk (s0 : ByteArray) (_ : s0.size ≤ maxLen) (s1 : ByteArray) (_ : s1.size ≤ maxLen) (s2 : ByteArray) (_ : s2.size ≤ maxLen) (s3 : ByteArray) (_ : s3.size ≤ maxLen) (at' : Int) (_ : (Lit.int .i64 at').wf = true) (by' : Int) (hby : (Lit.int .u8 by').wf = true) (cut : Int) (_ : (Lit.int .i64 cut).wf = true) (w : World) :
    Calls Try.prog 15 #[.string s0, .string s1, .string s2, .string s3, .int .i64 at', .int .u8 by', .int .i64 cut] w fun e w' => e = .returned (.bool true) ∧ Pu w w' := by
  obtain ⟨key, rfl⟩ : ∃ b, s0 = bs b := ⟨_, bs_eta s0⟩
  obtain ⟨nonce, rfl⟩ : ∃ b, s1 = bs b := ⟨_, bs_eta s1⟩
  obtain ⟨plain, rfl⟩ : ∃ b, s2 = bs b := ⟨_, bs_eta s2⟩
  obtain ⟨more, rfl⟩ : ∃ b, s3 = bs b := ⟨_, bs_eta s3⟩
  obtain ⟨y, rfl⟩ := u8_of' (bndU8' hby)
  clear hby
  by_cases g3 : 300 < plain.length
  · have q3 : (300 : Int) < plain.length := by omega
    go_enter Try.func15, Try.ntmps15
    go_wp2_with (go_at_call 47; refine (alive7 _).mono ?_; rintro e w1 ⟨rfl, hp1⟩)
    go_ret
    exact ⟨rfl, hp1⟩
  have q3 : decide ((300 : Int) < plain.length) = false := by simp; omega
  by_cases g4 : 100 < more.length
  · have q4 : (100 : Int) < more.length := by omega
    go_enter Try.func15, Try.ntmps15
    go_wp2_with (go_at_call 47; refine (alive7 _).mono ?_; rintro e w1 ⟨rfl, hp1⟩)
    go_ret
    exact ⟨rfl, hp1⟩
  have q4 : decide ((100 : Int) < more.length) = false := by simp; omega
  have hF1 := fun w => lawFill key 32 (by decide) w
  have hF2 := fun w => lawFill nonce 12 (by decide) w
  rw [show ((32 : Nat) : Int) = 32 from rfl] at hF1
  rw [show ((12 : Nat) : Int) = 12 from rfl] at hF2
  have hf := fine_fill key nonce
  obtain ⟨k, hk⟩ : ∃ k, k = fillL key 32 := ⟨_, rfl⟩
  obtain ⟨n, hn⟩ : ∃ k, k = fillL nonce 12 := ⟨_, rfl⟩
  rw [← hk] at hF1 hf
  rw [← hn] at hF2 hf
  have HF1 := Lib.hid hF1
  have HF2 := Lib.hid hF2
  clear hF1 hF2 hk hn
  obtain ⟨s, hs⟩ : ∃ s, s = sealL k n plain more := ⟨_, rfl⟩
  have hS := fun w => sealC k n plain more s hf hs (by omega) (by omega) w
  have hsl0 := sealL_length k n plain more
  have hop := open_seal k n plain more hf
  rw [← hs] at hsl0 hop
  obtain ⟨L, hL⟩ : ∃ L, L = plain.length + 16 := ⟨_, rfl⟩
  have hsl : s.length = L := by omega
  have z1 : (plain.length : Int) + 16 = L := by omega
  have z2 : IntKind.i64.wrap (L : Int) = L := by rw [IntKind.wrap_i64]; omega
  have z3 : ((L : Int) == 0) = false := by simp; omega
  have z4 : ¬ ((L : Int) = 0) := by omega
  obtain ⟨i, r, r0, r1, r2, r3, r4, hi⟩ := index_of at' L (by omega) (by omega)
  obtain ⟨j, t, t0, t1, t2, t3, t4, hj⟩ := index_of cut L (by omega) (by omega)
  obtain ⟨x, hx⟩ : ∃ x, s[i]'(by rw [hsl]; exact hi) = x := ⟨_, rfl⟩
  obtain ⟨v, hv⟩ : ∃ v, v = x ^^^ y := ⟨_, rfl⟩
  have hxv : Go.bits .xor .u8 (x.toNat : Int) (y.toNat : Int) = (v.toNat : Int) := by rw [xor_val, hv]
  obtain ⟨m2, hm2⟩ : ∃ m2, m2 = s.set i v := ⟨_, rfl⟩
  have hm2l : m2.length = L := by rw [hm2, List.length_set]; exact hsl
  have hset := hm2.symm
  have HSET := Lib.hid hset
  have HTL := Lib.hid hm2l
  have hi0 : (0 : Int) ≤ i := by omega
  have hi3 : (i : Int) < L := by omega
  have hj0 : (0 : Int) ≤ j := by omega
  have hj3 : (j : Int) ≤ L := by omega
  have hj4 : (j : Int) ≤ s.length := by omega
  obtain ⟨u, on, huo⟩ : ∃ p q, openR k n (s.take j) more = (p, q) := ⟨_, _, rfl⟩
  have hO2 := openC k n (s.take j) more u on huo (by simp; omega) (by omega)
  have HO2 := Lib.hid hO2
  have HS := Lib.hid hS
  by_cases hy : y.toNat = 0
  · have q5 : ((y.toNat : Int) == 0) = true := by simp; omega
    have q6 : decide ((y.toNat : Int) = 0) = true := by simp; omega
    have hy0 : y = 0 := UInt8.toNat_inj.1 (by rw [hy]; rfl)
    have hms : m2 = s := by
      rw [hm2, hv, hy0, ← hx]
      simp
    have hO1 := openC k n m2 more plain true (by rw [hms]; exact hop) (by omega) (by omega)
    have HO1 := Lib.hid hO1
    clear hS hs hop hO1 hO2 hf hm2 hset hms hv hy0 hy huo hsl0 hL
    go_enter Try.func15, Try.ntmps15
    go_wp2_with (first
      | (refine wpList_bytes _ rfl (.tmp 62) 9 27 5 rfl s (by first | rfl | simp [Act.eval]) Try.underlying9 Try.underlying27 Try.underlying5 ?_; intro w3 cap hrow hpu hcap; have hc := hrow.byte i (by omega); rw [hx] at hc; have hf := hrow.frozen i (by rw [cells_length]; omega); have hrw := hrow.set i (.int .u8 (v.toNat : Int)); rw [cells_set, HSET.out] at hrw; have hcv := Row.conv (P := Try.prog) (cap := cap) (n := L) 27 9 hrw HTL.out.symm Try.underlying27 Try.underlying5 Try.underlying9)
      | (go_at_call 47; refine (alive7 _).mono ?_; rintro e w1 ⟨rfl, hp1⟩)
      | (go_at_call 48; refine (HF1.out _).mono ?_; rintro e w7 ⟨rfl, hp7⟩; clear HF1)
      | (go_at_call 48; refine (HF2.out _).mono ?_; rintro e w8 ⟨rfl, hp8⟩)
      | (go_at_call 49; refine (HS.out _).mono ?_; rintro e w2 ⟨rfl, hp2⟩)
      | (go_at_call 51; refine (HO1.out.1 _).mono ?_; rintro e w4 ⟨rfl, hp4⟩; have hcv2 := Row.conv (P := Try.prog) (cap := cap) (n := L) 27 9 (hrw.pu hp4) HTL.out.symm Try.underlying27 Try.underlying5 Try.underlying9)
      | (go_at_call 52; refine (HO1.out.2 _).mono ?_; rintro e w5 ⟨rfl, hp5⟩; clear HO1)
      | (go_at_call 51; refine (HO2.out.1 _).mono ?_; rintro e w6 ⟨rfl, hp6⟩)
      | (go_at_call 52; refine (HO2.out.2 _).mono ?_; rintro e w9 ⟨rfl, hp9⟩))
    all_goals go_ret
    all_goals exact ⟨by simp, (((((((hp1.trans hp7).trans hp8).trans hp2).trans (hpu.setCell (Nat.le_refl _) _)).trans hp4).trans hp5).trans hp6).trans hp9⟩
  · have q5 : ((y.toNat : Int) == 0) = false := by simp; omega
    have q6 : ¬ ((y.toNat : Int) = 0) := by omega
    obtain ⟨p, q, hpq⟩ : ∃ p q, openR k n m2 more = (p, q) := ⟨_, _, rfl⟩
    have hO1 := openC k n m2 more p q hpq (by omega) (by omega)
    have HO1 := Lib.hid hO1
    clear hS hs hop hO1 hO2 hf hm2 hset hv hy hpq huo hsl0 hL
    go_enter Try.func15, Try.ntmps15
    go_wp2_with (first
      | (refine wpList_bytes _ rfl (.tmp 62) 9 27 5 rfl s (by first | rfl | simp [Act.eval]) Try.underlying9 Try.underlying27 Try.underlying5 ?_; intro w3 cap hrow hpu hcap; have hc := hrow.byte i (by omega); rw [hx] at hc; have hf := hrow.frozen i (by rw [cells_length]; omega); have hrw := hrow.set i (.int .u8 (v.toNat : Int)); rw [cells_set, HSET.out] at hrw; have hcv := Row.conv (P := Try.prog) (cap := cap) (n := L) 27 9 hrw HTL.out.symm Try.underlying27 Try.underlying5 Try.underlying9)
      | (go_at_call 47; refine (alive7 _).mono ?_; rintro e w1 ⟨rfl, hp1⟩)
      | (go_at_call 48; refine (HF1.out _).mono ?_; rintro e w7 ⟨rfl, hp7⟩; clear HF1)
      | (go_at_call 48; refine (HF2.out _).mono ?_; rintro e w8 ⟨rfl, hp8⟩)
      | (go_at_call 49; refine (HS.out _).mono ?_; rintro e w2 ⟨rfl, hp2⟩)
      | (go_at_call 51; refine (HO1.out.1 _).mono ?_; rintro e w4 ⟨rfl, hp4⟩; have hcv2 := Row.conv (P := Try.prog) (cap := cap) (n := L) 27 9 (hrw.pu hp4) HTL.out.symm Try.underlying27 Try.underlying5 Try.underlying9)
      | (go_at_call 52; refine (HO1.out.2 _).mono ?_; rintro e w5 ⟨rfl, hp5⟩; clear HO1)
      | (go_at_call 51; refine (HO2.out.1 _).mono ?_; rintro e w6 ⟨rfl, hp6⟩)
      | (go_at_call 52; refine (HO2.out.2 _).mono ?_; rintro e w9 ⟨rfl, hp9⟩))
    all_goals go_ret
    all_goals exact ⟨by simp, (((((((hp1.trans hp7).trans hp8).trans hp2).trans (hpu.setCell (Nat.le_refl _) _)).trans hp4).trans hp5).trans hp6).trans hp9⟩
end Go.Proofs.Ytdjbhbefghihcaa
