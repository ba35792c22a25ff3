/- The document's Extract, Expand, Key. The document's Turn, Nonce, Session. The document's Size, Pad, Unpad. The document's records. -/
import Derived.Test.YtfbnaemnblannaaGreatU8
set_option linter.unusedSimpArgs false
set_option linter.unusedVariables false
set_option linter.unusedSimpArgs false
set_option linter.unusedVariables false
namespace Go.Proofs.YtfbnaemnblannaaGreat
open Go.RowKit Go.Esc
set_option maxRecDepth 100000 in
set_option maxHeartbeats 1600000 in
theorem refExpand (key info : Bs) (n : Int) (h : key.length ≤ 100000) (h2 : info.length ≤ 700000) (h0 : 0 ≤ n) (hm : n ≤ 8160) (w : World) :
    Calls Tryz.prog 41 #[S key, S info, .int .i64 n] w fun e w' => e = .returned (.tuple #[S (expandL key info n.toNat), .bool true]) ∧ Pu w w' := by
  obtain ⟨N, rfl⟩ := Int.eq_ofNat_of_zero_le h0
  have q1 : decide ((N : Int) < 0) = false := by simp
  have q2 : decide ((8160 : Int) < N) = false := by simp; omega
  have q3 : ¬ ((N : Int) < 0) := by omega
  have q4 : ¬ ((8160 : Int) < N) := by omega
  go_enter Tryz.func41, Tryz.ntmps41
  go_wp2_with fail
  go_loopw [8, 9, 10] (fun v l i wr => ∃ (k K : Nat), K = k + 1 ∧ 32 * k < N + 32 ∧ v = S (outE key info k) ∧ l = S (lastE key info k) ∧ i = .int .i64 (K : Int) ∧ Pu w wr) (fun _ _ i _ => N + 32 - 32 * (intOf i).toNat)
  case atStart => exact ⟨0, 1, rfl, by omega, rfl, rfl, rfl, Pu.refl _⟩
  case round =>
    obtain ⟨k, K, hK, hkn, rfl, rfl, rfl, hpu⟩ := hrel
    have hol := outE_length key info k
    have hll := lastE_length key info k
    have hnl : lastE key info (k + 1) = macL key (lastE key info k ++ info ++ [UInt8.ofNat (k+1)]) := rfl
    have hno : outE key info (k + 1) = outE key info k ++ lastE key info (k + 1) := rfl
    have hnl2 : (lastE key info (k + 1)).length = 32 := macL_length _ _
    obtain ⟨o, ho⟩ : ∃ o, o = outE key info k := ⟨_, rfl⟩
    obtain ⟨l, hl⟩ : ∃ o, o = lastE key info k := ⟨_, rfl⟩
    obtain ⟨l2, hl2⟩ : ∃ o, o = lastE key info (k+1) := ⟨_, rfl⟩
    rw [← ho] at hol hno ⊢
    rw [← hl] at hll hnl ⊢
    rw [← hl2] at hnl hno hnl2
    by_cases hlt : 32 * k < N
    · have hlt' : (o.length : Int) < N := by omega
      have hK256 : K < 256 := by omega
      have hmod : (K : Int) % 256 = K := by omega
      have hcv := one_byte_eq (P := Tryz.prog) wr K hK256 31 9 5 Tryz.underlying31 Tryz.underlying5 Tryz.underlying9
      obtain ⟨c1, hc1⟩ : ∃ c, c = UInt8.ofNat K := ⟨_, rfl⟩
      rw [← hc1] at hcv
      have hM := fun w => refMac key (l ++ (info ++ [c1])) (by omega) (by simp; omega) w
      rw [show macL key (l ++ (info ++ [c1])) = l2 by rw [hnl, hc1, hK, List.append_assoc]] at hM
      have HM := Lib.hid hM
      have z1 : ¬ (9223372036854775807 < l.length + info.length) := by omega
      have z2 : ¬ (9223372036854775807 < l.length + info.length + 1) := by omega
      have z2b : ¬ (9223372036854775807 < l.length + (info.length + 1)) := by omega
      have z3 : ¬ (9223372036854775807 < o.length + l2.length) := by omega
      have z4 : ¬ (9223372036854775807 < o.length + 32) := by omega
      have HO := Lib.hid ho
      have HL := Lib.hid hl
      have HL2 := Lib.hid hl2
      have HNO := Lib.hid hno
      have HKK := Lib.hid hK
      have HC1 := Lib.hid hc1
      clear hM ho hl hl2 hno hnl hK hc1
      go_wp2_with (go_at_call 73; refine (HM.out _).mono ?_; rintro e w1 ⟨rfl, hp1⟩)
      go_roundw
      case rel =>
        have hKK := HKK.out
        exact ⟨k + 1, K + 1, by omega, by omega, by rw [HNO.out], by rw [HL2.out], by go_num, (hpu.alloc _).trans hp1⟩
      case measure => have hKK := HKK.out; simp [intOf]; omega
    · have hlt' : decide ((o.length : Int) < N) = false := by simp; omega
      have hlt2 : (N : Int) ≤ o.length := by omega
      have hk : k = (N + 31) / 32 := by omega
      have hfin : expandL key info N = o.take N := by rw [expandL, ← hk, ho]
      have HF := Lib.hid hfin
      clear hfin ho hl hl2 hno hnl hK hk
      go_wp2_with fail
      go_ret2
      exact ⟨by rw [show ((N : Int)).toNat = N from rfl, HF.out]; rfl, hpu⟩
theorem refExpand_no (key info : Bs) (n : Int) (h : n < 0 ∨ 8160 < n) (w : World) :
    Calls Tryz.prog 41 #[S key, S info, .int .i64 n] w fun e w' => e = .returned (.tuple #[S [], .bool false]) ∧ Pu w w' := by
  by_cases h1 : n < 0
  · go_enter Tryz.func41, Tryz.ntmps41
    go_wp2_with fail
    go_ret2
    exact ⟨rfl, Pu.refl _⟩
  · have q1 : decide (n < 0) = false := by simp; omega
    have q2 : (8160 : Int) < n := by omega
    go_enter Tryz.func41, Tryz.ntmps41
    go_wp2_with fail
    go_ret2
    exact ⟨rfl, Pu.refl _⟩
theorem keyL_nil : keyL (List.replicate 32 0) = keyL [] := by decide
theorem macL_nil (b : Bs) : macL (List.replicate 32 0) b = macL [] b := by rw [macL, macL, keyL_nil]
end Go.Proofs.YtfbnaemnblannaaGreat
set_option linter.unusedSimpArgs false
set_option linter.unusedVariables false
namespace Go.Proofs.YtfbnaemnblannaaGreat
open Go.RowKit Go.Esc
theorem refNonce (n : Nat) (hn : n < 9223372036854775808) (w : World) :
    Calls Tryz.prog 22 #[.int .i64 (n : Int)] w fun e w' => e = .returned (S (nonceL n)) ∧ Pu w w' := by
  have hR := fun w => refZeros 4 (by decide) w
  have hP := fun w => refPutBig (n : Int) 8 w (by omega) (by omega) (by omega) (by omega)
  obtain ⟨r, hr⟩ : ∃ r, r = List.replicate 4 (0 : UInt8) := ⟨_, rfl⟩
  obtain ⟨p, hp⟩ : ∃ p, p = putB n 8 := ⟨_, rfl⟩
  have hrl : r.length = 4 := by rw [hr]; rfl
  have hpl : p.length = 8 := by rw [hp]; exact putB_length _ _
  rw [← hr] at hR
  rw [show putB ((n : Int)).toNat (8 : Int).toNat = p by rw [hp]; rfl] at hP
  have hfin : r ++ p = nonceL n := by rw [hr, hp]; rfl
  obtain ⟨x, hx⟩ : ∃ x, x = nonceL n := ⟨_, rfl⟩
  rw [← hx] at hfin ⊢
  have hw : IntKind.u64.wrap (n : Int) = n := by rw [IntKind.wrap_u64]; omega
  have HR := Lib.hid hR
  have HP := Lib.hid hP
  clear hR hP hr hp hx
  go_enter Tryz.func22, Tryz.ntmps22
  go_wp2_with (first
    | (go_at_call 42; refine (HR.out _).mono ?_; rintro e w1 ⟨rfl, hp1⟩)
    | (go_at_call 43; refine (HP.out _).mono ?_; rintro e w2 ⟨rfl, hp2⟩))
  go_ret
  exact ⟨rfl, hp1.trans hp2⟩
set_option maxRecDepth 100000 in
set_option maxHeartbeats 1600000 in
theorem refTurn (k : Bs) (n : Nat) (h : k.length ≤ 100000) (h1 : n ≤ 1000) (w : World) :
    Calls Tryz.prog 21 #[S k, .int .i64 (n : Int)] w fun e w' => e = .returned (S (turnL k n)) ∧ Pu w w' := by
  go_enter Tryz.func21, Tryz.ntmps21
  go_wp2_with fail
  go_loopw [0, 5] (fun v i wr => ∃ j : Nat, j ≤ n ∧ v = S (turnL k j) ∧ i = .int .i64 (j : Int) ∧ Pu w wr) (fun _ i _ => n - (intOf i).toNat)
  case atStart => exact ⟨0, by omega, rfl, rfl, Pu.refl _⟩
  case round =>
    obtain ⟨j, hj, rfl, rfl, hpu⟩ := hrel
    have htl := turnL_length k j h
    have hnx : turnL k (j+1) = nextL (turnL k j) := rfl
    obtain ⟨t, ht⟩ : ∃ t, t = turnL k j := ⟨_, rfl⟩
    rw [← ht] at htl hnx ⊢
    by_cases hlt : j < n
    · have hlt' : (j : Int) < n := by omega
      have hN := fun w => refExpand t ratchetW 32 htl (by decide) (by decide) (by decide) w
      obtain ⟨t2, ht2⟩ : ∃ t, t = turnL k (j+1) := ⟨_, rfl⟩
      rw [show expandL t ratchetW (32 : Int).toNat = t2 by rw [ht2, hnx]; rfl] at hN
      have HN := Lib.hid hN
      have HT2 := Lib.hid ht2
      clear hN ht ht2 hnx
      go_wp2_with (go_at_call 41; refine (HN.out _).mono ?_; rintro e w3 ⟨rfl, hp3⟩)
      go_roundw
      case rel => exact ⟨j + 1, by omega, by rw [HT2.out], by go_num, hpu.trans hp3⟩
      case measure => simp [intOf]; omega
    · obtain rfl : j = n := by omega
      have hlt' : decide ((j : Int) < j) = false := by simp
      have HT := Lib.hid ht
      clear ht hnx
      go_wp2_with fail
      go_ret
      exact ⟨by rw [← HT.out]; rfl, hpu⟩
end Go.Proofs.YtfbnaemnblannaaGreat
set_option linter.unusedSimpArgs false
set_option linter.unusedVariables false
namespace Go.Proofs.YtfbnaemnblannaaGreat
open Go.RowKit Go.Esc
set_option maxHeartbeats 400000 in
theorem refZeros' (n : Nat) (hn : n ≤ 1000000) (w : World) :
    Calls Tryz.prog 42 #[.int .i64 (n : Int)] w fun e w' => e = .returned (S (List.replicate n 0)) ∧ Pu w w' := by
  obtain ⟨i0, hi, hz0, hz1, hz2⟩ := info_parts infoB
  go_enter Tryz.func42, Tryz.ntmps42
  go_wp2_with (at_make; refine wpList_make_full _ rfl _ _ 31 rfl w.heap.size 5 i0 (.int .u8 0) 1 Tryz.underlying31 hi hz0 hz1 _ _ _ _ n rfl rfl rfl rfl (by rw [hz2]; omega) (by unfold maxLen; omega) (Nat.le_refl _) ?_; intro w1 hown hgrow; rw [madeZ] at hown; have hcv := own_conv (P := Tryz.prog) 31 9 hown Tryz.underlying31 Tryz.underlying5 Tryz.underlying9)
  go_ret
  exact ⟨rfl, (Below.refl _ _).grown hgrow (Nat.le_refl _) (by simp)⟩
theorem refBig' (l : List UInt8) (w : World) (hl : l.length ≤ 8) :
    Calls Tryz.prog 19 #[S l] w fun e w' => e = .returned (.int .u64 (beN l)) ∧ Pu w w' := by
  refine (refBig l w hl).mono ?_
  rintro e w' ⟨rfl, rfl⟩
  exact ⟨rfl, Below.refl _ _⟩
set_option maxHeartbeats 800000 in
theorem refSize (n : Int) (w : World) :
    Calls Tryz.prog 74 #[.int .i64 n] w fun e w' => e = .returned (.tuple #[.int .i64 (((padSize n).getD 0 : Nat) : Int), .bool (padSize n).isSome]) ∧ Pu w w' := by
  go_enter Tryz.func74, Tryz.ntmps74
  have hb : Pu w (w.alloc (.cells #[.int .i64 32, .int .i64 128, .int .i64 512, .int .i64 2048] 3)) := ((Below.refl _ _).alloc (Nat.le_refl _) _)
  go_wp2_with fail
  go_loop [5] (fun i => ∃ k : Nat, k ≤ 4 ∧ i = .int .i64 k ∧ (n < 0 ∨ padLow k ≤ n)) (fun i => 4 - (intOf i).toNat)
  case atStart => exact ⟨0, by omega, rfl, by simp [padLow]; omega⟩
  case round =>
    obtain ⟨k, hk, rfl, hlo⟩ := hrel
    have hk5 : k = 0 ∨ k = 1 ∨ k = 2 ∨ k = 3 ∨ k = 4 := by omega
    rcases hk5 with rfl | rfl | rfl | rfl | rfl
    · simp only [padLow] at hlo
      by_cases hin : 0 ≤ n ∧ n ≤ 30
      · obtain ⟨h0, h1⟩ := hin
        go_wp2_with fail
        go_ret2
        have hs := padSize_32 (n := n) (by omega) (by omega)
        exact ⟨by rw [hs]; rfl, hb⟩
      · by_cases h0 : 0 ≤ n
        · have h1 : 30 < n := by omega
          go_wp2_with fail
          go_round
          case rel => exact ⟨1, by omega, by go_num, by simp [padLow]; omega⟩
          case measure => simp [intOf]
        · have h1 : n < 0 := by omega
          have h2 : decide (0 ≤ n) = false := by simp; omega
          go_wp2_with fail
          go_round
          case rel => exact ⟨1, by omega, by go_num, by left; omega⟩
          case measure => simp [intOf]
    · simp only [padLow] at hlo
      by_cases hin : 0 ≤ n ∧ n ≤ 126
      · obtain ⟨h0, h1⟩ := hin
        go_wp2_with fail
        go_ret2
        have hs := padSize_128 (n := n) (by omega) (by omega)
        exact ⟨by rw [hs]; rfl, hb⟩
      · by_cases h0 : 0 ≤ n
        · have h1 : 126 < n := by omega
          go_wp2_with fail
          go_round
          case rel => exact ⟨2, by omega, by go_num, by simp [padLow]; omega⟩
          case measure => simp [intOf]
        · have h1 : n < 0 := by omega
          have h2 : decide (0 ≤ n) = false := by simp; omega
          go_wp2_with fail
          go_round
          case rel => exact ⟨2, by omega, by go_num, by left; omega⟩
          case measure => simp [intOf]
    · simp only [padLow] at hlo
      by_cases hin : 0 ≤ n ∧ n ≤ 510
      · obtain ⟨h0, h1⟩ := hin
        go_wp2_with fail
        go_ret2
        have hs := padSize_512 (n := n) (by omega) (by omega)
        exact ⟨by rw [hs]; rfl, hb⟩
      · by_cases h0 : 0 ≤ n
        · have h1 : 510 < n := by omega
          go_wp2_with fail
          go_round
          case rel => exact ⟨3, by omega, by go_num, by simp [padLow]; omega⟩
          case measure => simp [intOf]
        · have h1 : n < 0 := by omega
          have h2 : decide (0 ≤ n) = false := by simp; omega
          go_wp2_with fail
          go_round
          case rel => exact ⟨3, by omega, by go_num, by left; omega⟩
          case measure => simp [intOf]
    · simp only [padLow] at hlo
      by_cases hin : 0 ≤ n ∧ n ≤ 2046
      · obtain ⟨h0, h1⟩ := hin
        go_wp2_with fail
        go_ret2
        have hs := padSize_2048 (n := n) (by omega) (by omega)
        exact ⟨by rw [hs]; rfl, hb⟩
      · by_cases h0 : 0 ≤ n
        · have h1 : 2046 < n := by omega
          go_wp2_with fail
          go_round
          case rel => exact ⟨4, by omega, by go_num, by simp [padLow]; omega⟩
          case measure => simp [intOf]
        · have h1 : n < 0 := by omega
          have h2 : decide (0 ≤ n) = false := by simp; omega
          go_wp2_with fail
          go_round
          case rel => exact ⟨4, by omega, by go_num, by left; omega⟩
          case measure => simp [intOf]
    · simp only [padLow] at hlo
      go_wp2_with fail
      go_ret2
      have hs := padSize_none (n := n) (by omega)
      exact ⟨by rw [hs]; rfl, hb⟩

set_option maxHeartbeats 800000 in
set_option maxRecDepth 100000 in
theorem refPad (b : List UInt8) (w : World) (hb : b.length ≤ 1000000) :
    Calls Tryz.prog 44 #[S b] w fun e w' => e = .returned (.tuple #[S ((padL b).getD []), .bool (padL b).isSome]) ∧ Pu w w' := by
  cases hs : padSize (b.length : Int) with
  | none =>
    have hp : padL b = none := by simp [padL, hs]
    have HP := Lib.hid hp
    have hz := refSize (b.length : Int)
    rw [hs] at hz
    have HZ := Lib.hid hz
    clear hp hz hs
    go_enter Tryz.func44, Tryz.ntmps44
    go_wp2_with (go_at_call 74; refine (HZ.out _).mono ?_; rintro e w1 ⟨rfl, hb1⟩)
    go_ret2
    exact ⟨by rw [HP.out]; rfl, hb1⟩
  | some s =>
    have hp : padL b = some (putB b.length 2 ++ b ++ List.replicate (s - 2 - b.length) 0) := by simp [padL, hs]
    have HP := Lib.hid hp
    have hz := refSize (b.length : Int)
    obtain ⟨h1, h2⟩ := padSize_some hs
    rw [hs] at hz
    have HZ := Lib.hid hz
    clear hp hz hs
    obtain ⟨z, hzz⟩ : ∃ z, z = s - 2 - b.length := ⟨_, rfl⟩
    have hz0 := fun w => refZeros' z (by omega) w
    have HZ0 := Lib.hid hz0
    have zz1 : (s : Int) - 2 - b.length = z := by omega
    have zz2 : IntKind.i64.wrap ((s : Int) - 2) = (s : Int) - 2 := by rw [IntKind.wrap_i64]; omega
    have zz3 : IntKind.i64.wrap (z : Int) = z := by rw [IntKind.wrap_i64]; omega
    have HZZ := Lib.hid hzz
    clear hz0 hzz
    have hpl : (putB b.length 2).length ≤ 2 := by rw [putB_length]; omega
    go_enter Tryz.func44, Tryz.ntmps44
    go_wp2_with (first | (go_at_call 74; refine (HZ.out _).mono ?_; rintro e w1 ⟨rfl, hb1⟩) | (go_at_call 43; refine (refPutBig _ _ _ (by omega) (by omega) (by omega) (by omega)).mono ?_; rintro e w2 ⟨rfl, hb2⟩) | (go_at_call 42; refine (HZ0.out _).mono ?_; rintro e w3 ⟨rfl, hb3⟩))
    go_ret2
    refine ⟨?_, (hb1.trans hb2).trans hb3⟩
    rw [HP.out, ← HZZ.out]
    rfl

set_option maxHeartbeats 800000 in
set_option maxRecDepth 100000 in
theorem refUnpad (b : List UInt8) (w : World) (hb : b.length ≤ 1000000) :
    Calls Tryz.prog 23 #[S b] w fun e w' => e = .returned (.tuple #[S ((unpadL b).getD []), .bool (unpadL b).isSome]) ∧ Pu w w' := by
  by_cases h2 : b.length < 2
  · have hp : unpadL b = none := by simp [unpadL, h2]
    have HP := Lib.hid hp
    clear hp
    go_enter Tryz.func23, Tryz.ntmps23
    go_wp2_with fail
    go_ret2
    exact ⟨by rw [HP.out]; rfl, Below.refl _ _⟩
  · have hB : beN (b.take 2) < 65536 := by have := beN_lt (b.take 2); simp at this; rw [Nat.min_eq_left (by omega)] at this; omega
    obtain ⟨n, hn⟩ : ∃ n, n = beN (b.take 2) := ⟨_, rfl⟩
    have hbig := refBig' (b.take 2)
    rw [← hn] at hbig hB
    have HB := Lib.hid hbig
    clear hbig
    by_cases hlt : b.length - 2 < n
    · have hp : unpadL b = none := by simp [unpadL, h2, ← hn, hlt]
      have HP := Lib.hid hp
      clear hp hn
      have hlt' : (b.length : Int) - 2 < n := by omega
      go_enter Tryz.func23, Tryz.ntmps23
      go_wp2_with (go_at_call 19; refine (HB.out _ (by simp; omega)).mono ?_; rintro e w1 ⟨rfl, hb1⟩)
      go_ret2
      exact ⟨by rw [HP.out]; rfl, hb1⟩
    · have hle : (n : Int) ≤ (b.length : Int) - 2 := by omega
      have hs1 : (2:Int) ≤ 2 + (n:Int) := by omega
      have hs2 : 2 + (n:Int) ≤ (b.length:Int) := by omega
      obtain ⟨o, ho⟩ : ∃ o, o = (b.take (2 + n)).drop 2 := ⟨_, rfl⟩
      have hu : unpadL b = if padL o = some b then some o else none := by
        rw [unpadL, if_neg h2]; simp only [← hn, if_neg hlt, ← ho]
      have hol : o.length ≤ b.length := by rw [ho]; simp; omega
      have hpad := fun w => refPad o w (by omega)
      have HO := Lib.hid ho
      clear ho hn
      cases hpo : padL o with
      | none =>
        rw [hpo] at hpad
        have hp : unpadL b = none := by rw [hu, hpo]; simp
        have HP := Lib.hid hp
        have HD := Lib.hid hpad
        clear hp hpad hu hpo
        go_enter Tryz.func23, Tryz.ntmps23
        go_wp2_with (first | (go_at_call 19; refine (HB.out _ (by simp; omega)).mono ?_; rintro e w1 ⟨rfl, hb1⟩) | (go_at_call 44; rw [← HO.out]; refine (HD.out _).mono ?_; rintro e w2 ⟨rfl, hb2⟩))
        go_ret2
        exact ⟨by rw [HP.out]; rfl, hb1.trans hb2⟩
      | some q =>
        rw [hpo] at hpad
        have HD := Lib.hid hpad
        by_cases hq : q = b
        · have hp : unpadL b = some o := by rw [hu, hpo, hq]; simp
          have HP := Lib.hid hp
          have hqb : (q == b) = true := by simpa using hq
          clear hp hpad hu hpo hq
          go_enter Tryz.func23, Tryz.ntmps23
          go_wp2_with (first | (go_at_call 19; refine (HB.out _ (by simp; omega)).mono ?_; rintro e w1 ⟨rfl, hb1⟩) | (go_at_call 44; rw [← HO.out]; refine (HD.out _).mono ?_; rintro e w2 ⟨rfl, hb2⟩))
          go_ret2
          exact ⟨by rw [HP.out]; exact congrArg (fun l => Ending.returned (.tuple #[S l, .bool true])) HO.out.symm, hb1.trans hb2⟩
        · have hp : unpadL b = none := by rw [hu, hpo]; simp [hq]
          have HP := Lib.hid hp
          have hqb : (q == b) = false := by simpa using hq
          clear hp hpad hu hpo hq
          go_enter Tryz.func23, Tryz.ntmps23
          go_wp2_with (first | (go_at_call 19; refine (HB.out _ (by simp; omega)).mono ?_; rintro e w1 ⟨rfl, hb1⟩) | (go_at_call 44; rw [← HO.out]; refine (HD.out _).mono ?_; rintro e w2 ⟨rfl, hb2⟩))
          go_ret2
          exact ⟨by rw [HP.out]; rfl, hb1.trans hb2⟩
end Go.Proofs.YtfbnaemnblannaaGreat
set_option linter.unusedSimpArgs false
set_option linter.unusedVariables false
namespace Go.Proofs.YtfbnaemnblannaaGreat
open Go.RowKit Go.Esc
theorem openR_len' (k n b h : Bs) : (openR k n b h).1.length ≤ b.length := by
  unfold openR
  split
  · simp only [streamL_length, List.length_take]; omega
  · simp
/-- What the document says of a record's bytes. -/
def unrecR (key b : Bs) : Nat × Bs × Nat := if badForm b then (0, [], 2) else match plainL key (beN (b.take 8)) b with
  | none => (beN (b.take 8), [], 3)
  | some t => (beN (b.take 8), t, 0)
def trip (r : Nat × Bs × Nat) : Value := .tuple #[.int .i64 (r.1 : Int), S r.2.1, .int .i64 (r.2.2 : Int)]
set_option maxRecDepth 100000 in
set_option maxHeartbeats 1600000 in
theorem refUnrecord (key b : Bs) (hk : key.length = 32) (hb2 : b.length ≤ 90000) (w : World) :
    Calls Tryz.prog 9 #[S key, S b] w fun e w' => e = .returned (trip (unrecR key b)) ∧ Pu w w' := by
  by_cases h24 : b.length < 24
  · have k1 : (b.length : Int) < 24 := by omega
    have e9 : unrecR key b = (0, [], 2) := by unfold unrecR; rw [if_pos (.inl h24)]
    rw [e9]
    go_enter Tryz.func9, Tryz.ntmps9
    go_wp2_with fail
    go_ret3
    exact ⟨rfl, Pu.refl _⟩
  · have k1 : ¬ (b.length : Int) < 24 := by omega
    have k3 : (8 : Int) ≤ b.length := by omega
    have hB := fun w => refBig' (b.take 8) w (by simp; omega)
    have hun : ¬ badForm b → unrecR key b = match plainL key (beN (b.take 8)) b with
      | none => (beN (b.take 8), [], 3)
      | some t => (beN (b.take 8), t, 0) := fun h => by unfold unrecR; rw [if_neg h]
    obtain ⟨q, hq⟩ : ∃ v, v = beN (b.take 8) := ⟨_, rfl⟩
    rw [← hq] at hB hun
    by_cases h400 : 400 ≤ q
    · have k2 : (400 : Int) ≤ q := by omega
      have e9 : unrecR key b = (0, [], 2) := by unfold unrecR; rw [if_pos (.inr (by rw [← hq]; exact h400))]
      rw [e9]
      have HB := Lib.hid hB
      clear hB hun hq e9
      go_enter Tryz.func9, Tryz.ntmps9
      go_wp2_with (go_at_call 19; refine (HB.out _).mono ?_; rintro e w1 ⟨rfl, hp1⟩)
      go_ret3
      exact ⟨rfl, hp1⟩
    · have k2 : ¬ (400 : Int) ≤ q := by omega
      have k4 : (q : Int) < 400 := by omega
      have hun2 := hun (by unfold badForm; rw [← hq]; omega)
      have hT := fun w => refTurn key (q / 8) (by omega) (by omega) w
      have hN := fun w => refNonce q (by omega) w
      have hO := fun w => refUnbox (turnL key (q / 8)) (nonceL q) (b.drop 8) (b.take 8) (by simp; omega) (by simp; omega) w
      have hU := fun w => refUnpad (openR (turnL key (q / 8)) (nonceL q) (b.drop 8) (b.take 8)).1 w (by have := openR_len' (turnL key (q / 8)) (nonceL q) (b.drop 8) (b.take 8); simp at this; omega)
      have hpl : plainL key q b = if (openR (turnL key (q / 8)) (nonceL q) (b.drop 8) (b.take 8)).2 then unpadL (openR (turnL key (q / 8)) (nonceL q) (b.drop 8) (b.take 8)).1 else none := rfl
      have h8 : (q : Int).tdiv 8 = ((q / 8 : Nat) : Int) := by rw [Int.tdiv_eq_ediv_of_nonneg (by omega)]; omega
      obtain ⟨e8, he8⟩ : ∃ e8, e8 = q / 8 := ⟨_, rfl⟩
      rw [← he8] at hT hO hU hpl h8
      obtain ⟨k, hkk⟩ : ∃ k, k = turnL key e8 := ⟨_, rfl⟩
      obtain ⟨no, hno⟩ : ∃ no, no = nonceL q := ⟨_, rfl⟩
      rw [← hkk] at hT
      rw [← hno] at hN
      rw [← hkk, ← hno] at hO hU hpl
      obtain ⟨r, hr⟩ : ∃ r, r = openR k no (b.drop 8) (b.take 8) := ⟨_, rfl⟩
      rw [← hr] at hO hU hpl
      obtain ⟨r1, r2⟩ := r
      simp only [rb] at hO
      simp only at hU hpl
      have HB := Lib.hid hB
      have HN := Lib.hid hN
      have HO := Lib.hid hO
      have HU := Lib.hid hU
      have HT := Lib.hid hT
      have cT : ∀ args w, (callFunc 21 args).run Tryz.prog w = .ok (.enter 21 args) w := fun args w => run_callFunc_body Tryz.func21 (by kernel_rfl) (by kernel_rfl) args w
      have cN : ∀ args w, (callFunc 22 args).run Tryz.prog w = .ok (.enter 22 args) w := fun args w => run_callFunc_body Tryz.func22 (by kernel_rfl) (by kernel_rfl) args w
      have cO : ∀ args w, (callFunc 20 args).run Tryz.prog w = .ok (.enter 20 args) w := fun args w => run_callFunc_body Tryz.func20 (by kernel_rfl) (by kernel_rfl) args w
      have hdl : (8 : Int) ≤ b.length := k3
      have h88 : IntKind.i64.wrap (e8 : Int) = e8 := by rw [IntKind.wrap_i64]; omega
      have T1 := Lib.hid True.intro
      clear hB hN hO hT hkk hno hr hun he8 hq
      obtain ⟨R, hRR⟩ : ∃ R, R = unrecR key b := ⟨_, rfl⟩
      rw [← hRR] at hun2 ⊢
      clear hRR
      cases r2 with
      | false =>
        have e1 : plainL key q b = none := by simpa using hpl
        rw [e1] at hun2
        simp only at hun2
        subst hun2
        clear e1 hpl hU
        · skip
          go_enter Tryz.func9, Tryz.ntmps9
          go_wp2_with (first
            | (go_at_call 19; clear T1; refine (HB.out _).mono ?_; rintro e w1 ⟨rfl, hp1⟩)
            | (go_at_call 19; refine (HB.out _).mono ?_; rintro e w2 ⟨rfl, hp2⟩))
          apply region_pu (Φs := (Is _ :: Is _ :: Is _ :: Is _ :: Is _ :: Is _ :: Is _ :: Is _ :: Is _ :: Is _ :: Is _ :: Is _ :: Is _ :: Is _ :: Is _ :: Is _ :: [])) (hm := by kernel_rfl) (hE := by kernel_rfl) (hD := by kernel_rfl) (hsize := by kernel_rfl)
          case hop =>
            refine ⟨?_, ?_, ?_, ?_, ?_, ?_, ?_, ?_, ?_, ?_, ?_, ?_, ?_, ?_, ?_, ?_, trivial⟩
            · intro a' w' hs hp he
              have e0 := hs 0 (by kernel_rfl)
              try simp [Is, Region.binds] at he
              exact op_val rfl (wanted_none rfl) (by first | (go_simp; done) | (go_simp; rfl) | (simp [execOp, Act.eval, go_sem, *]; done) | (simp [execOp, Act.eval, go_sem, *]; rfl)) rfl (Pu.refl _)
            · intro a' w' hs hp he
              have e7 := hs 7 (by kernel_rfl)
              try simp [Is, Region.binds] at he
              exact op_val rfl (wanted_none rfl) (by first | (go_simp; done) | (go_simp; rfl) | (simp [execOp, Act.eval, go_sem, *]; done) | (simp [execOp, Act.eval, go_sem, *]; rfl)) rfl (Pu.refl _)
            · intro a' w' hs hp he
              try simp [Is, Region.binds] at he
              exact op_val rfl (wanted_none rfl) (by first | (go_simp; done) | (go_simp; rfl) | (simp [execOp, Act.eval, go_sem, *]; done) | (simp [execOp, Act.eval, go_sem, *]; rfl)) rfl (Pu.refl _)
            · intro a' w' hs hp he
              try simp [Is, Region.binds] at he
              exact op_callP (HT.out _) rfl (wanted_none rfl) (by first | (go_simp; done) | (go_simp; rfl)) (fun _ => rfl)
            · intro a' w' hs hp he
              have e7 := hs 7 (by kernel_rfl)
              try simp [Is, Region.binds] at he
              exact op_val rfl (wanted_none rfl) (by first | (go_simp; done) | (go_simp; rfl) | (simp [execOp, Act.eval, go_sem, *]; done) | (simp [execOp, Act.eval, go_sem, *]; rfl)) rfl (Pu.refl _)
            · intro a' w' hs hp he
              try simp [Is, Region.binds] at he
              exact op_callP (HN.out _) rfl (wanted_none rfl) (by first | (go_simp; done) | (go_simp; rfl)) (fun _ => rfl)
            · intro a' w' hs hp he
              have e1 := hs 1 (by kernel_rfl)
              try simp [Is, Region.binds] at he
              exact op_val rfl (wanted_none rfl) (by first | (go_simp; done) | (go_simp; rfl) | (simp [execOp, Act.eval, go_sem, *]; done) | (simp [execOp, Act.eval, go_sem, *]; rfl)) rfl (Pu.refl _)
            · intro a' w' hs hp he
              try simp [Is, Region.binds] at he
              exact op_val rfl (wanted_none rfl) (by first | (go_simp; done) | (go_simp; rfl) | (simp [execOp, Act.eval, go_sem, *]; done) | (simp [execOp, Act.eval, go_sem, *]; rfl)) rfl (Pu.refl _)
            · intro a' w' hs hp he
              have e1 := hs 1 (by kernel_rfl)
              try simp [Is, Region.binds] at he
              exact op_val rfl (wanted_none rfl) (by first | (go_simp; done) | (go_simp; rfl) | (simp [execOp, Act.eval, go_sem, *]; done) | (simp [execOp, Act.eval, go_sem, *]; rfl)) rfl (Pu.refl _)
            · intro a' w' hs hp he
              try simp [Is, Region.binds] at he
              exact op_val rfl (wanted_none rfl) (by first | (go_simp; done) | (go_simp; rfl) | (simp [execOp, Act.eval, go_sem, *]; done) | (simp [execOp, Act.eval, go_sem, *]; rfl)) rfl (Pu.refl _)
            · intro a' w' hs hp he
              try simp [Is, Region.binds] at he
              exact op_callP (HO.out _) rfl (wanted_none rfl) (by first | (go_simp; done) | (go_simp; rfl)) (fun _ => rfl)
            · intro a' w' hs hp he
              try simp [Is, Region.binds] at he
              exact op_val rfl (wanted_none rfl) (by first | (go_simp; done) | (go_simp; rfl) | (simp [execOp, Act.eval, go_sem, *]; done) | (simp [execOp, Act.eval, go_sem, *]; rfl)) rfl (Pu.refl _)
            · intro a' w' hs hp he
              try simp [Is, Region.binds] at he
              exact op_val rfl (wanted_none rfl) (by first | (go_simp; done) | (go_simp; rfl) | (simp [execOp, Act.eval, go_sem, *]; done) | (simp [execOp, Act.eval, go_sem, *]; rfl)) rfl (Pu.refl _)
            · intro a' w' hs hp he
              try simp [Is, Region.binds] at he
              exact op_val rfl (wanted_none rfl) (by first | (go_simp; done) | (go_simp; rfl) | (simp [execOp, Act.eval, go_sem, *]; done) | (simp [execOp, Act.eval, go_sem, *]; rfl)) rfl (Pu.refl _)
            · intro a' w' hs hp he
              try simp [Is, Region.binds] at he
              exact op_val rfl (wanted_none rfl) (by first | (go_simp; done) | (go_simp; rfl) | (simp [execOp, Act.eval, go_sem, *]; done) | (simp [execOp, Act.eval, go_sem, *]; rfl)) rfl (Pu.refl _)
            · intro a' w' hs hp he
              try simp [Is, Region.binds] at he
              exact op_val rfl (wanted_none rfl) (by first | (go_simp; done) | (go_simp; rfl) | (simp [execOp, Act.eval, go_sem, *]; done) | (simp [execOp, Act.eval, go_sem, *]; rfl)) rfl (Pu.refl _)
          case hend =>
            intro a' w' hdef hsz hs hp hall
            obtain ⟨r0, r1, r2, r3, r4, r5, r6, r7, r8, r9, r10, r11, r12, r13, r14, r15, -⟩ := hall
            have hA := agree_done (agree_step (agree_step (agree_step (agree_step (agree_step (agree_step (agree_step (agree_step (agree_step (agree_step (agree_step (agree_step (agree_step (agree_step (agree_step (agree_step (agree_init [26, 27, 28, 29, 30, 31, 32, 33, 34, 35, 36, 25, 37, 38, 8, 9] hsz hs (by kernel_rfl)) r0) r1) r2) r3) r4) r5) r6) r7) r8) r9) r10) r11) r12) r13) r14) r15)
            have ha := act_of hA hdef
            rw [ha]
            clear ha hA hs hsz hdef r0 r1 r2 r3 r4 r5 r6 r7 r8 r9 r10 r11 r12 r13 r14 r15 
            (try simp only [List.setIfInBounds_toArray])
            (try dsimp only [List.set_cons_zero, List.set_cons_succ])
            (try simp only [Exit.then])
            have hp3 := (hp1.trans hp2).trans hp
            clear hp
            go_wp2_with (go_at_call 23; refine (HU.out _).mono ?_; rintro e3 w3 ⟨rfl, hp4⟩; replace hp3 := hp3.trans hp4)
            go_ret3
            exact ⟨rfl, hp3⟩
      | true =>
        have e1 : plainL key q b = unpadL r1 := by simpa using hpl
        rw [e1] at hun2
        clear e1 hpl
        cases hu : unpadL r1 with
        | none =>
          rw [hu] at hun2 HU
          simp only at hun2
          subst hun2
          clear hu hU
          go_enter Tryz.func9, Tryz.ntmps9
          go_wp2_with (first
            | (go_at_call 19; clear T1; refine (HB.out _).mono ?_; rintro e w1 ⟨rfl, hp1⟩)
            | (go_at_call 19; refine (HB.out _).mono ?_; rintro e w2 ⟨rfl, hp2⟩))
          apply region_pu (Φs := (Is _ :: Is _ :: Is _ :: Is _ :: Is _ :: Is _ :: Is _ :: Is _ :: Is _ :: Is _ :: Is _ :: Is _ :: Is _ :: Is _ :: Is _ :: Is _ :: [])) (hm := by kernel_rfl) (hE := by kernel_rfl) (hD := by kernel_rfl) (hsize := by kernel_rfl)
          case hop =>
            refine ⟨?_, ?_, ?_, ?_, ?_, ?_, ?_, ?_, ?_, ?_, ?_, ?_, ?_, ?_, ?_, ?_, trivial⟩
            · intro a' w' hs hp he
              have e0 := hs 0 (by kernel_rfl)
              try simp [Is, Region.binds] at he
              exact op_val rfl (wanted_none rfl) (by first | (go_simp; done) | (go_simp; rfl) | (simp [execOp, Act.eval, go_sem, *]; done) | (simp [execOp, Act.eval, go_sem, *]; rfl)) rfl (Pu.refl _)
            · intro a' w' hs hp he
              have e7 := hs 7 (by kernel_rfl)
              try simp [Is, Region.binds] at he
              exact op_val rfl (wanted_none rfl) (by first | (go_simp; done) | (go_simp; rfl) | (simp [execOp, Act.eval, go_sem, *]; done) | (simp [execOp, Act.eval, go_sem, *]; rfl)) rfl (Pu.refl _)
            · intro a' w' hs hp he
              try simp [Is, Region.binds] at he
              exact op_val rfl (wanted_none rfl) (by first | (go_simp; done) | (go_simp; rfl) | (simp [execOp, Act.eval, go_sem, *]; done) | (simp [execOp, Act.eval, go_sem, *]; rfl)) rfl (Pu.refl _)
            · intro a' w' hs hp he
              try simp [Is, Region.binds] at he
              exact op_callP (HT.out _) rfl (wanted_none rfl) (by first | (go_simp; done) | (go_simp; rfl)) (fun _ => rfl)
            · intro a' w' hs hp he
              have e7 := hs 7 (by kernel_rfl)
              try simp [Is, Region.binds] at he
              exact op_val rfl (wanted_none rfl) (by first | (go_simp; done) | (go_simp; rfl) | (simp [execOp, Act.eval, go_sem, *]; done) | (simp [execOp, Act.eval, go_sem, *]; rfl)) rfl (Pu.refl _)
            · intro a' w' hs hp he
              try simp [Is, Region.binds] at he
              exact op_callP (HN.out _) rfl (wanted_none rfl) (by first | (go_simp; done) | (go_simp; rfl)) (fun _ => rfl)
            · intro a' w' hs hp he
              have e1 := hs 1 (by kernel_rfl)
              try simp [Is, Region.binds] at he
              exact op_val rfl (wanted_none rfl) (by first | (go_simp; done) | (go_simp; rfl) | (simp [execOp, Act.eval, go_sem, *]; done) | (simp [execOp, Act.eval, go_sem, *]; rfl)) rfl (Pu.refl _)
            · intro a' w' hs hp he
              try simp [Is, Region.binds] at he
              exact op_val rfl (wanted_none rfl) (by first | (go_simp; done) | (go_simp; rfl) | (simp [execOp, Act.eval, go_sem, *]; done) | (simp [execOp, Act.eval, go_sem, *]; rfl)) rfl (Pu.refl _)
            · intro a' w' hs hp he
              have e1 := hs 1 (by kernel_rfl)
              try simp [Is, Region.binds] at he
              exact op_val rfl (wanted_none rfl) (by first | (go_simp; done) | (go_simp; rfl) | (simp [execOp, Act.eval, go_sem, *]; done) | (simp [execOp, Act.eval, go_sem, *]; rfl)) rfl (Pu.refl _)
            · intro a' w' hs hp he
              try simp [Is, Region.binds] at he
              exact op_val rfl (wanted_none rfl) (by first | (go_simp; done) | (go_simp; rfl) | (simp [execOp, Act.eval, go_sem, *]; done) | (simp [execOp, Act.eval, go_sem, *]; rfl)) rfl (Pu.refl _)
            · intro a' w' hs hp he
              try simp [Is, Region.binds] at he
              exact op_callP (HO.out _) rfl (wanted_none rfl) (by first | (go_simp; done) | (go_simp; rfl)) (fun _ => rfl)
            · intro a' w' hs hp he
              try simp [Is, Region.binds] at he
              exact op_val rfl (wanted_none rfl) (by first | (go_simp; done) | (go_simp; rfl) | (simp [execOp, Act.eval, go_sem, *]; done) | (simp [execOp, Act.eval, go_sem, *]; rfl)) rfl (Pu.refl _)
            · intro a' w' hs hp he
              try simp [Is, Region.binds] at he
              exact op_val rfl (wanted_none rfl) (by first | (go_simp; done) | (go_simp; rfl) | (simp [execOp, Act.eval, go_sem, *]; done) | (simp [execOp, Act.eval, go_sem, *]; rfl)) rfl (Pu.refl _)
            · intro a' w' hs hp he
              try simp [Is, Region.binds] at he
              exact op_val rfl (wanted_none rfl) (by first | (go_simp; done) | (go_simp; rfl) | (simp [execOp, Act.eval, go_sem, *]; done) | (simp [execOp, Act.eval, go_sem, *]; rfl)) rfl (Pu.refl _)
            · intro a' w' hs hp he
              try simp [Is, Region.binds] at he
              exact op_val rfl (wanted_none rfl) (by first | (go_simp; done) | (go_simp; rfl) | (simp [execOp, Act.eval, go_sem, *]; done) | (simp [execOp, Act.eval, go_sem, *]; rfl)) rfl (Pu.refl _)
            · intro a' w' hs hp he
              try simp [Is, Region.binds] at he
              exact op_val rfl (wanted_none rfl) (by first | (go_simp; done) | (go_simp; rfl) | (simp [execOp, Act.eval, go_sem, *]; done) | (simp [execOp, Act.eval, go_sem, *]; rfl)) rfl (Pu.refl _)
          case hend =>
            intro a' w' hdef hsz hs hp hall
            obtain ⟨r0, r1, r2, r3, r4, r5, r6, r7, r8, r9, r10, r11, r12, r13, r14, r15, -⟩ := hall
            have hA := agree_done (agree_step (agree_step (agree_step (agree_step (agree_step (agree_step (agree_step (agree_step (agree_step (agree_step (agree_step (agree_step (agree_step (agree_step (agree_step (agree_step (agree_init [26, 27, 28, 29, 30, 31, 32, 33, 34, 35, 36, 25, 37, 38, 8, 9] hsz hs (by kernel_rfl)) r0) r1) r2) r3) r4) r5) r6) r7) r8) r9) r10) r11) r12) r13) r14) r15)
            have ha := act_of hA hdef
            rw [ha]
            clear ha hA hs hsz hdef r0 r1 r2 r3 r4 r5 r6 r7 r8 r9 r10 r11 r12 r13 r14 r15 
            (try simp only [List.setIfInBounds_toArray])
            (try dsimp only [List.set_cons_zero, List.set_cons_succ])
            (try simp only [Exit.then])
            have hp3 := (hp1.trans hp2).trans hp
            clear hp
            go_wp2_with (go_at_call 23; refine (HU.out _).mono ?_; rintro e3 w3 ⟨rfl, hp4⟩; replace hp3 := hp3.trans hp4)
            go_ret3
            exact ⟨rfl, hp3⟩
        | some tx =>
          rw [hu] at hun2 HU
          simp only at hun2
          subst hun2
          clear hu hU
          go_enter Tryz.func9, Tryz.ntmps9
          go_wp2_with (first
            | (go_at_call 19; clear T1; refine (HB.out _).mono ?_; rintro e w1 ⟨rfl, hp1⟩)
            | (go_at_call 19; refine (HB.out _).mono ?_; rintro e w2 ⟨rfl, hp2⟩))
          apply region_pu (Φs := (Is _ :: Is _ :: Is _ :: Is _ :: Is _ :: Is _ :: Is _ :: Is _ :: Is _ :: Is _ :: Is _ :: Is _ :: Is _ :: Is _ :: Is _ :: Is _ :: [])) (hm := by kernel_rfl) (hE := by kernel_rfl) (hD := by kernel_rfl) (hsize := by kernel_rfl)
          case hop =>
            refine ⟨?_, ?_, ?_, ?_, ?_, ?_, ?_, ?_, ?_, ?_, ?_, ?_, ?_, ?_, ?_, ?_, trivial⟩
            · intro a' w' hs hp he
              have e0 := hs 0 (by kernel_rfl)
              try simp [Is, Region.binds] at he
              exact op_val rfl (wanted_none rfl) (by first | (go_simp; done) | (go_simp; rfl) | (simp [execOp, Act.eval, go_sem, *]; done) | (simp [execOp, Act.eval, go_sem, *]; rfl)) rfl (Pu.refl _)
            · intro a' w' hs hp he
              have e7 := hs 7 (by kernel_rfl)
              try simp [Is, Region.binds] at he
              exact op_val rfl (wanted_none rfl) (by first | (go_simp; done) | (go_simp; rfl) | (simp [execOp, Act.eval, go_sem, *]; done) | (simp [execOp, Act.eval, go_sem, *]; rfl)) rfl (Pu.refl _)
            · intro a' w' hs hp he
              try simp [Is, Region.binds] at he
              exact op_val rfl (wanted_none rfl) (by first | (go_simp; done) | (go_simp; rfl) | (simp [execOp, Act.eval, go_sem, *]; done) | (simp [execOp, Act.eval, go_sem, *]; rfl)) rfl (Pu.refl _)
            · intro a' w' hs hp he
              try simp [Is, Region.binds] at he
              exact op_callP (HT.out _) rfl (wanted_none rfl) (by first | (go_simp; done) | (go_simp; rfl)) (fun _ => rfl)
            · intro a' w' hs hp he
              have e7 := hs 7 (by kernel_rfl)
              try simp [Is, Region.binds] at he
              exact op_val rfl (wanted_none rfl) (by first | (go_simp; done) | (go_simp; rfl) | (simp [execOp, Act.eval, go_sem, *]; done) | (simp [execOp, Act.eval, go_sem, *]; rfl)) rfl (Pu.refl _)
            · intro a' w' hs hp he
              try simp [Is, Region.binds] at he
              exact op_callP (HN.out _) rfl (wanted_none rfl) (by first | (go_simp; done) | (go_simp; rfl)) (fun _ => rfl)
            · intro a' w' hs hp he
              have e1 := hs 1 (by kernel_rfl)
              try simp [Is, Region.binds] at he
              exact op_val rfl (wanted_none rfl) (by first | (go_simp; done) | (go_simp; rfl) | (simp [execOp, Act.eval, go_sem, *]; done) | (simp [execOp, Act.eval, go_sem, *]; rfl)) rfl (Pu.refl _)
            · intro a' w' hs hp he
              try simp [Is, Region.binds] at he
              exact op_val rfl (wanted_none rfl) (by first | (go_simp; done) | (go_simp; rfl) | (simp [execOp, Act.eval, go_sem, *]; done) | (simp [execOp, Act.eval, go_sem, *]; rfl)) rfl (Pu.refl _)
            · intro a' w' hs hp he
              have e1 := hs 1 (by kernel_rfl)
              try simp [Is, Region.binds] at he
              exact op_val rfl (wanted_none rfl) (by first | (go_simp; done) | (go_simp; rfl) | (simp [execOp, Act.eval, go_sem, *]; done) | (simp [execOp, Act.eval, go_sem, *]; rfl)) rfl (Pu.refl _)
            · intro a' w' hs hp he
              try simp [Is, Region.binds] at he
              exact op_val rfl (wanted_none rfl) (by first | (go_simp; done) | (go_simp; rfl) | (simp [execOp, Act.eval, go_sem, *]; done) | (simp [execOp, Act.eval, go_sem, *]; rfl)) rfl (Pu.refl _)
            · intro a' w' hs hp he
              try simp [Is, Region.binds] at he
              exact op_callP (HO.out _) rfl (wanted_none rfl) (by first | (go_simp; done) | (go_simp; rfl)) (fun _ => rfl)
            · intro a' w' hs hp he
              try simp [Is, Region.binds] at he
              exact op_val rfl (wanted_none rfl) (by first | (go_simp; done) | (go_simp; rfl) | (simp [execOp, Act.eval, go_sem, *]; done) | (simp [execOp, Act.eval, go_sem, *]; rfl)) rfl (Pu.refl _)
            · intro a' w' hs hp he
              try simp [Is, Region.binds] at he
              exact op_val rfl (wanted_none rfl) (by first | (go_simp; done) | (go_simp; rfl) | (simp [execOp, Act.eval, go_sem, *]; done) | (simp [execOp, Act.eval, go_sem, *]; rfl)) rfl (Pu.refl _)
            · intro a' w' hs hp he
              try simp [Is, Region.binds] at he
              exact op_val rfl (wanted_none rfl) (by first | (go_simp; done) | (go_simp; rfl) | (simp [execOp, Act.eval, go_sem, *]; done) | (simp [execOp, Act.eval, go_sem, *]; rfl)) rfl (Pu.refl _)
            · intro a' w' hs hp he
              try simp [Is, Region.binds] at he
              exact op_val rfl (wanted_none rfl) (by first | (go_simp; done) | (go_simp; rfl) | (simp [execOp, Act.eval, go_sem, *]; done) | (simp [execOp, Act.eval, go_sem, *]; rfl)) rfl (Pu.refl _)
            · intro a' w' hs hp he
              try simp [Is, Region.binds] at he
              exact op_val rfl (wanted_none rfl) (by first | (go_simp; done) | (go_simp; rfl) | (simp [execOp, Act.eval, go_sem, *]; done) | (simp [execOp, Act.eval, go_sem, *]; rfl)) rfl (Pu.refl _)
          case hend =>
            intro a' w' hdef hsz hs hp hall
            obtain ⟨r0, r1, r2, r3, r4, r5, r6, r7, r8, r9, r10, r11, r12, r13, r14, r15, -⟩ := hall
            have hA := agree_done (agree_step (agree_step (agree_step (agree_step (agree_step (agree_step (agree_step (agree_step (agree_step (agree_step (agree_step (agree_step (agree_step (agree_step (agree_step (agree_step (agree_init [26, 27, 28, 29, 30, 31, 32, 33, 34, 35, 36, 25, 37, 38, 8, 9] hsz hs (by kernel_rfl)) r0) r1) r2) r3) r4) r5) r6) r7) r8) r9) r10) r11) r12) r13) r14) r15)
            have ha := act_of hA hdef
            rw [ha]
            clear ha hA hs hsz hdef r0 r1 r2 r3 r4 r5 r6 r7 r8 r9 r10 r11 r12 r13 r14 r15 
            (try simp only [List.setIfInBounds_toArray])
            (try dsimp only [List.set_cons_zero, List.set_cons_succ])
            (try simp only [Exit.then])
            have hp3 := (hp1.trans hp2).trans hp
            clear hp
            go_wp2_with (go_at_call 23; refine (HU.out _).mono ?_; rintro e3 w3 ⟨rfl, hp4⟩; replace hp3 := hp3.trans hp4)
            go_ret3
            exact ⟨rfl, hp3⟩
end Go.Proofs.YtfbnaemnblannaaGreat
