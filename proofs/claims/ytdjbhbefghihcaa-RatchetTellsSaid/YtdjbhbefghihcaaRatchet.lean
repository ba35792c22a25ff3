/- Package ratchet. -/
import Derived.Test.YtdjbhbefghihcaaDerive
import Derived.Test.YtdjbhbefghihcaaPad
set_option linter.unusedSimpArgs false
set_option linter.unusedVariables false
namespace Go.Esc
open Go Go.RowKit
def ratchetW : Bs := [114, 97, 116, 99, 104, 101, 116]
def nextL (k : Bs) : Bs := expandL k ratchetW 32
def turnL (k : Bs) : Nat → Bs
  | 0 => k
  | n+1 => nextL (turnL k n)
def fillL (s : Bs) (n : Nat) : Bs := (s ++ List.replicate (n - s.length) 0).take n
def nonceL (n : Nat) : Bs := List.replicate 4 0 ++ putB n 8
theorem turnL_add (k : Bs) (a b : Nat) : turnL (turnL k a) b = turnL k (a + b) := by
  induction b with
  | zero => rfl
  | succ b ih => rw [turnL, ih]; rfl
end Go.Esc
namespace Go.Proofs.Ytdjbhbefghihcaa
open Go.RowKit Go.Esc
theorem nextL_length (k : Bs) : (nextL k).length = 32 := expandL_length _ _ _
theorem turnL_length (k : Bs) (n : Nat) (hk : k.length ≤ 100000) : (turnL k n).length ≤ 100000 := by
  cases n with
  | zero => exact hk
  | succ n => rw [turnL, nextL_length]; omega
theorem turnL_length2 (k : Bs) (n : Nat) (h : 0 < n) : (turnL k n).length = 32 := by
  obtain ⟨m, rfl⟩ : ∃ m, n = m + 1 := ⟨n - 1, by omega⟩
  exact nextL_length _
theorem nonceL_length (n : Nat) : (nonceL n).length = 12 := by simp [nonceL, putB_length]
theorem next (k : Bs) (h : k.length ≤ 100000) (w : World) :
    Calls Try.prog 72 #[S k] w fun e w' => e = .returned (S (nextL k)) ∧ Pu w w' := by
  have hE := fun w => expand k ratchetW 32 h (by decide) (by decide) (by decide) w
  obtain ⟨r, hr⟩ : ∃ r, r = nextL k := ⟨_, rfl⟩
  rw [show expandL k ratchetW (32 : Int).toNat = r by rw [hr]; rfl] at hE
  rw [← hr]
  have HE := Lib.hid hE
  clear hE hr
  go_enter Try.func72, Try.ntmps72
  go_wp2_with (go_at_call 55; refine (HE.out _).mono ?_; rintro e w2 ⟨rfl, hp2⟩)
  go_ret
  exact ⟨rfl, hp2⟩
set_option maxRecDepth 100000 in
set_option maxHeartbeats 1600000 in
theorem ratchetAt (k : Bs) (n : Int) (h : k.length ≤ 100000) (h0 : 0 ≤ n) (h1 : n ≤ 100) (w : World) :
    Calls Try.prog 69 #[S k, .int .i64 n] w fun e w' => e = .returned (.tuple #[S (turnL k n.toNat), .bool true]) ∧ Pu w w' := by
  obtain ⟨N, rfl⟩ := Int.eq_ofNat_of_zero_le h0
  have q1 : decide ((N : Int) < 0) = false := by simp
  have q2 : decide ((100 : Int) < N) = false := by simp; omega
  go_enter Try.func69, Try.ntmps69
  go_wp2_with fail
  have hr0 := Row.newAt w w.heap.size #[.int .i64 0] 111 rfl rfl
  have hb0 := (Pu.refl w).alloc (.cells #[.int .i64 0] 111)
  go_loopw [0] (fun v wr => ∃ j : Nat, j ≤ N ∧ v = S (turnL k j) ∧ Row wr w.heap.size 111 [.int .i64 (j : Int)] ∧ Below w.heap.size w wr) (fun _ wr => N - (intOf ((wr.cell? ⟨w.heap.size, 0, none⟩).getD undef)).toNat)
  case atStart => exact ⟨0, by omega, rfl, hr0, hb0⟩
  case round =>
    clear hr0 hb0
    obtain ⟨j, hj, rfl, hr, hbel⟩ := hrel
    have c0 := hr.cell 0 (by simp)
    have f0 := hr.frozen 0 (by simp)
    simp at c0
    have htl := turnL_length k j h
    have hnx : turnL k (j+1) = nextL (turnL k j) := rfl
    obtain ⟨t, ht⟩ : ∃ t, t = turnL k j := ⟨_, rfl⟩
    rw [← ht] at htl hnx ⊢
    by_cases hlt : j < N
    · have hlt' : (j : Int) < N := by omega
      have hN := fun w => next t htl w
      rw [← hnx] at hN
      obtain ⟨t2, ht2⟩ : ∃ t, t = turnL k (j+1) := ⟨_, rfl⟩
      rw [← ht2] at hN
      have HN := Lib.hid hN
      have HT := Lib.hid ht
      have HT2 := Lib.hid ht2
      clear hN ht ht2 hnx
      go_wp2_with (first
        | (go_at_call 100; refine (load64 ⟨w.heap.size, 0, none⟩ _ _ c0).mono ?_; rintro e w3 ⟨rfl, rfl⟩)
        | (go_at_call 72; refine (HN.out _).mono ?_; rintro e w3 ⟨rfl, hp3⟩; replace hr := hr.pu hp3; replace hbel := hbel.trans (Below.mono hp3 hbel.size); have c1 := hr.cell 0 (by simp); have f1 := hr.frozen 0 (by simp); simp at c1)
        | (go_at_call 99; refine (add64 ⟨w.heap.size, 0, none⟩ (j : Int) _ (by omega) c1 f1).mono ?_; rintro e w4 ⟨rfl, rfl⟩))
      have hr2 := hr.set 0 (.int .i64 ((j : Int) + 1))
      have hc2 := hr2.cell 0 (by simp)
      simp at hc2
      go_roundw
      case rel => exact ⟨j + 1, by omega, by rw [HT2.out], hr2, hbel.setCell (by simp) _⟩
      case measure => rw [hc2, c0]; simp [intOf]; omega
    · obtain rfl : j = N := by omega
      have hlt' : decide ((j : Int) < j) = false := by simp
      have HT := Lib.hid ht
      clear ht hnx
      go_wp2_with (go_at_call 100; refine (load64 ⟨w.heap.size, 0, none⟩ _ _ c0).mono ?_; rintro e w3 ⟨rfl, rfl⟩)
      go_ret2
      exact ⟨by rw [show ((j : Int)).toNat = j from rfl, ← HT.out]; rfl, hbel⟩
theorem ratchetAt_no (k : Bs) (n : Int) (h : n < 0 ∨ 100 < n) (w : World) :
    Calls Try.prog 69 #[S k, .int .i64 n] w fun e w' => e = .returned (.tuple #[S [], .bool false]) ∧ Pu w w' := by
  by_cases h1 : n < 0
  · go_enter Try.func69, Try.ntmps69
    go_wp2_with fail
    go_ret2
    exact ⟨rfl, Pu.refl _⟩
  · have q1 : decide (n < 0) = false := by simp; omega
    have q2 : (100 : Int) < n := by omega
    go_enter Try.func69, Try.ntmps69
    go_wp2_with fail
    go_ret2
    exact ⟨rfl, Pu.refl _⟩
theorem epoch (n : Int) (hn : n < 9223372036854775808) (w : World) :
    Calls Try.prog 68 #[.int .i64 n] w fun e w' => e = .returned (.int .i64 (if n < 0 then 0 else n / 8)) ∧ w' = w := by
  by_cases h : n < 0
  · rw [if_pos h]
    have hm : max n 0 = 0 := by omega
    go_enter Try.func68, Try.ntmps68
    go_wp2_with fail
    go_ret
    exact ⟨rfl, rfl⟩
  · rw [if_neg h]
    have hq : n.tdiv 8 = n / 8 := Int.tdiv_eq_ediv_of_nonneg (by omega)
    have h' : (0 : Int) ≤ n := by omega
    obtain ⟨q, hq2⟩ : ∃ q, q = n / 8 := ⟨_, rfl⟩
    rw [← hq2] at hq ⊢
    have hm : max n 0 = n := by omega
    have hw : IntKind.i64.wrap q = q := by rw [IntKind.wrap_i64]; omega
    clear hq2
    go_enter Try.func68, Try.ntmps68
    go_wp2_with fail
    go_ret
    exact ⟨rfl, rfl⟩
theorem nonce (n : Nat) (hn : n < 9223372036854775808) (w : World) :
    Calls Try.prog 67 #[.int .i64 (n : Int)] w fun e w' => e = .returned (S (nonceL n)) ∧ Pu w w' := by
  have hR := fun w => rep 0 4 w (by decide) (by decide)
  have hP := fun w => putBig (n : Int) 8 w (by omega) (by omega) (by omega)
  obtain ⟨r, hr⟩ : ∃ r, r = List.replicate 4 (0 : UInt8) := ⟨_, rfl⟩
  obtain ⟨p, hp⟩ : ∃ p, p = putB n 8 := ⟨_, rfl⟩
  have hrl : r.length = 4 := by rw [hr]; rfl
  have hpl : p.length = 8 := by rw [hp]; exact putB_length _ _
  rw [show (4 : Int).toNat = 4 from rfl, ← hr] at hR
  rw [show putB ((n : Int)).toNat (8 : Int).toNat = p by rw [hp]; rfl] at hP
  have hfin : r ++ p = nonceL n := by rw [hr, hp]; rfl
  obtain ⟨x, hx⟩ : ∃ x, x = nonceL n := ⟨_, rfl⟩
  rw [← hx] at hfin ⊢
  have h0 : decide ((n : Int) < 0) = false := by simp
  have hw : IntKind.u64.wrap (n : Int) = n := by rw [IntKind.wrap_u64]; omega
  have HR := Lib.hid hR
  have HP := Lib.hid hP
  clear hR hP hr hp hx
  go_enter Try.func67, Try.ntmps67
  go_wp2_with (first
    | (go_at_call 77; refine (HR.out _).mono ?_; rintro e w1 ⟨rfl, hp1⟩)
    | (go_at_call 76; refine (HP.out _).mono ?_; rintro e w2 ⟨rfl, hp2⟩))
  go_ret
  exact ⟨rfl, hp1.trans hp2⟩
theorem nonce_no (n : Int) (h : n < 0) (w : World) :
    Calls Try.prog 67 #[.int .i64 n] w fun e w' => e = .returned (S []) ∧ Pu w w' := by
  go_enter Try.func67, Try.ntmps67
  go_wp2_with fail
  go_ret
  exact ⟨rfl, Pu.refl _⟩
set_option maxHeartbeats 800000 in
theorem fill (s : Bs) (n : Nat) (h : s.length ≤ n) (hn : n ≤ 100000) (w : World) :
    Calls Try.prog 48 #[S s, .int .i64 (n : Int)] w fun e w' => e = .returned (S (fillL s n)) ∧ w' = w := by
  have k0 : (ByteArray.mk #[0]) = bs [0] := rfl
  go_enter Try.func48, Try.ntmps48
  go_wp2_with fail
  go_loop [0] (fun v => ∃ k : Nat, s.length + k ≤ n ∧ v = S (s ++ List.replicate k 0)) (fun v => match v with | .string x => n - x.size | _ => 0)
  case atStart => exact ⟨0, by omega, by simp⟩
  case round =>
    obtain ⟨k, hk, rfl⟩ := hrel
    obtain ⟨cur, hcur⟩ : ∃ c, c = s ++ List.replicate k 0 := ⟨_, rfl⟩
    have hcl : cur.length = s.length + k := by rw [hcur]; simp
    have hnx : cur ++ [0] = s ++ List.replicate (k+1) 0 := by rw [hcur, List.replicate_succ', List.append_assoc]
    rw [← hcur]
    have z9 : ¬ (9223372036854775807 < cur.length + 1) := by omega
    by_cases hlt : cur.length < n
    · have hlt' : (cur.length : Int) < n := by omega
      have HC := Lib.hid hcl
      have HN := Lib.hid hnx
      clear hcl hnx hcur
      go_wp2_with fail
      go_round
      case rel => have := HC.out; exact ⟨k + 1, by omega, by rw [HN.out]⟩
      case measure => simp [bs_size]; omega
    · have hlt' : decide ((cur.length : Int) < n) = false := by simp; omega
      have hle : (n : Int) ≤ cur.length := by omega
      have hfin : fillL s n = cur.take n := by rw [fillL, hcur, show n - s.length = k by omega]
      have HF := Lib.hid hfin
      clear hcl hnx hcur hfin
      go_wp2_with fail
      go_ret
      exact ⟨by rw [HF.out]; rfl, rfl⟩
end Go.Proofs.Ytdjbhbefghihcaa
