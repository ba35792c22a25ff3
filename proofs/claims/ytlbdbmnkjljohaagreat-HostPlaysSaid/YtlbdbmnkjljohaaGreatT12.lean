/- Package derive. Package ratchet. ratchet.Session. The document's Extract, Expand, Key. The document's Turn, Nonce, Session. The document's letters, names, proofs and keys. A law for regions that draw their order, some operations of which, one behind the other, change a block. -/
import Derived.Test.YtlbdbmnkjljohaaGreatT11
set_option linter.unusedSimpArgs false
set_option linter.unusedVariables false
set_option linter.unusedSimpArgs false
set_option linter.unusedVariables false
namespace Go.Esc
open Go Go.RowKit
def lastE (key info : Bs) : Nat → Bs
  | 0 => []
  | k+1 => macL key (lastE key info k ++ info ++ [UInt8.ofNat (k+1)])
def outE (key info : Bs) : Nat → Bs
  | 0 => []
  | k+1 => outE key info k ++ lastE key info (k+1)
def expandL (key info : Bs) (n : Nat) : Bs := (outE key info ((n + 31) / 32)).take n
def deriveL (secret salt info : Bs) : Bs := expandL (macL salt secret) info 32
end Go.Esc
namespace Go.Proofs.YtlbdbmnkjljohaaGreat
open Go.RowKit Go.Esc
theorem lastE_length (key info : Bs) (k : Nat) : (lastE key info k).length ≤ 32 := by
  cases k with
  | zero => simp [lastE]
  | succ k => rw [lastE, macL_length]; omega
theorem outE_length (key info : Bs) (k : Nat) : (outE key info k).length = 32 * k := by
  induction k with
  | zero => rfl
  | succ k ih => rw [outE, List.length_append, ih, lastE, macL_length]; omega
theorem expandL_length (key info : Bs) (n : Nat) : (expandL key info n).length = n := by
  rw [expandL, List.length_take, outE_length]; omega
set_option maxRecDepth 100000 in
set_option maxHeartbeats 1600000 in
theorem expand (key info : Bs) (n : Int) (h : key.length ≤ 100000) (h2 : info.length ≤ 700000) (h0 : 0 ≤ n) (hm : n ≤ 8160) (w : World) :
    Calls Tryz.prog 104 #[S key, S info, .int .i64 n] w fun e w' => e = .returned (.tuple #[S (expandL key info n.toNat), .bool true]) ∧ Pu w w' := by
  obtain ⟨N, rfl⟩ := Int.eq_ofNat_of_zero_le h0
  have q1 : decide ((N : Int) < 0) = false := by simp
  have q2 : decide ((8160 : Int) < N) = false := by simp; omega
  have q3 : ¬ ((N : Int) < 0) := by omega
  have q4 : ¬ ((8160 : Int) < N) := by omega
  go_enter Tryz.func104, Tryz.ntmps104
  go_wp2_with fail
  go_loopw [8, 9, 10] (fun v l i wr => ∃ (k K : Nat), K = k + 1 ∧ 32 * k < N + 32 ∧ v = S (outE key info k) ∧ l = S (lastE key info k) ∧ i = .int .i64 (K : Int) ∧ Pu w wr) (fun _ _ i _ => N + 32 - 32 * (intOf i).toNat)
  case atStart => exact ⟨0, 1, rfl, by omega, rfl, rfl, rfl, Pu.refl _⟩
  case round =>
    obtain ⟨k, K, hK, hkn, rfl, rfl, rfl, hpu⟩ := hrel
    have hol := outE_length key info k
    have hll := lastE_length key info k
    have hnl : lastE key info (k + 1) = macL key (lastE key info k ++ info ++ [UInt8.ofNat (k+1)]) := rfl
    have hno : outE key info (k + 1) = outE key info k ++ lastE key info (k + 1) := rfl
    have hnl2 : (lastE key info (k + 1)).length = 32 := macL_length _ _
    obtain ⟨o, ho⟩ : ∃ o, o = outE key info k := ⟨_, rfl⟩
    obtain ⟨l, hl⟩ : ∃ o, o = lastE key info k := ⟨_, rfl⟩
    obtain ⟨l2, hl2⟩ : ∃ o, o = lastE key info (k+1) := ⟨_, rfl⟩
    rw [← ho] at hol hno ⊢
    rw [← hl] at hll hnl ⊢
    rw [← hl2] at hnl hno hnl2
    by_cases hlt : 32 * k < N
    · have hlt' : (o.length : Int) < N := by omega
      have hK256 : K < 256 := by omega
      have hmod : (K : Int) % 256 = K := by omega
      have hcv := one_byte_eq (P := Tryz.prog) wr K hK256 42 9 5 Tryz.underlying42 Tryz.underlying5 Tryz.underlying9
      obtain ⟨c1, hc1⟩ : ∃ c, c = UInt8.ofNat K := ⟨_, rfl⟩
      rw [← hc1] at hcv
      have hM := fun w => macOf key (l ++ (info ++ [c1])) (by omega) (by simp; omega) w
      rw [show macL key (l ++ (info ++ [c1])) = l2 by rw [hnl, hc1, hK, List.append_assoc]] at hM
      have HM := Lib.hid hM
      have z1 : ¬ (9223372036854775807 < l.length + info.length) := by omega
      have z2 : ¬ (9223372036854775807 < l.length + info.length + 1) := by omega
      have z2b : ¬ (9223372036854775807 < l.length + (info.length + 1)) := by omega
      have z3 : ¬ (9223372036854775807 < o.length + l2.length) := by omega
      have z4 : ¬ (9223372036854775807 < o.length + 32) := by omega
      have HO := Lib.hid ho
      have HL := Lib.hid hl
      have HL2 := Lib.hid hl2
      have HNO := Lib.hid hno
      have HKK := Lib.hid hK
      have HC1 := Lib.hid hc1
      clear hM ho hl hl2 hno hnl hK hc1
      go_wp2_with (go_at_call 69; refine (HM.out _).mono ?_; rintro e w1 ⟨rfl, hp1⟩)
      go_roundw
      case rel =>
        have hKK := HKK.out
        exact ⟨k + 1, K + 1, by omega, by omega, by rw [HNO.out], by rw [HL2.out], by go_num, (hpu.alloc _).trans hp1⟩
      case measure => have hKK := HKK.out; simp [intOf]; omega
    · have hlt' : decide ((o.length : Int) < N) = false := by simp; omega
      have hlt2 : (N : Int) ≤ o.length := by omega
      have hk : k = (N + 31) / 32 := by omega
      have hfin : expandL key info N = o.take N := by rw [expandL, ← hk, ho]
      have HF := Lib.hid hfin
      clear hfin ho hl hl2 hno hnl hK hk
      go_wp2_with fail
      go_ret2
      exact ⟨by rw [show ((N : Int)).toNat = N from rfl, HF.out]; rfl, hpu⟩
theorem expand_no (key info : Bs) (n : Int) (h : n < 0 ∨ 8160 < n) (w : World) :
    Calls Tryz.prog 104 #[S key, S info, .int .i64 n] w fun e w' => e = .returned (.tuple #[S [], .bool false]) ∧ Pu w w' := by
  by_cases h1 : n < 0
  · go_enter Tryz.func104, Tryz.ntmps104
    go_wp2_with fail
    go_ret2
    exact ⟨rfl, Pu.refl _⟩
  · have q1 : decide (n < 0) = false := by simp; omega
    have q2 : (8160 : Int) < n := by omega
    go_enter Tryz.func104, Tryz.ntmps104
    go_wp2_with fail
    go_ret2
    exact ⟨rfl, Pu.refl _⟩
theorem extract (salt secret : Bs) (h : salt.length ≤ 100000) (h2 : secret.length ≤ 800000) (w : World) :
    Calls Tryz.prog 105 #[S salt, S secret] w fun e w' => e = .returned (S (macL salt secret)) ∧ Pu w w' := by
  have hM := fun w => macOf salt secret h h2 w
  have HM := Lib.hid hM
  clear hM
  go_enter Tryz.func105, Tryz.ntmps105
  go_wp2_with (go_at_call 69; refine (HM.out _).mono ?_; rintro e w1 ⟨rfl, hp1⟩)
  go_ret
  exact ⟨rfl, hp1⟩
theorem deriveKey (secret salt info : Bs) (h : salt.length ≤ 100000) (h2 : secret.length ≤ 800000) (h3 : info.length ≤ 700000) (w : World) :
    Calls Tryz.prog 91 #[S secret, S salt, S info] w fun e w' => e = .returned (S (deriveL secret salt info)) ∧ Pu w w' := by
  have hM := fun w => extract salt secret h h2 w
  obtain ⟨k, hk⟩ : ∃ k, k = macL salt secret := ⟨_, rfl⟩
  have hkl : k.length = 32 := by rw [hk]; exact macL_length _ _
  have hE := fun w => expand k info 32 (by omega) h3 (by decide) (by decide) w
  obtain ⟨r, hr⟩ : ∃ r, r = expandL k info 32 := ⟨_, rfl⟩
  rw [show (32 : Int).toNat = 32 from rfl, ← hr] at hE
  rw [← hk] at hM
  have hfin : deriveL secret salt info = r := by rw [deriveL, ← hk, ← hr]
  have HM := Lib.hid hM
  have HE := Lib.hid hE
  have HF := Lib.hid hfin
  clear hM hE hk hr hfin
  go_enter Tryz.func91, Tryz.ntmps91
  go_wp2_with (first
    | (go_at_call 105; refine (HM.out _).mono ?_; rintro e w1 ⟨rfl, hp1⟩)
    | (go_at_call 104; refine (HE.out _).mono ?_; rintro e w2 ⟨rfl, hp2⟩))
  go_ret
  exact ⟨by rw [HF.out]; rfl, hp1.trans hp2⟩
end Go.Proofs.YtlbdbmnkjljohaaGreat
set_option linter.unusedSimpArgs false
set_option linter.unusedVariables false
namespace Go.Esc
open Go Go.RowKit
def ratchetW : Bs := [114, 97, 116, 99, 104, 101, 116]
def nextL (k : Bs) : Bs := expandL k ratchetW 32
def turnL (k : Bs) : Nat → Bs
  | 0 => k
  | n+1 => nextL (turnL k n)
def fillL (s : Bs) (n : Nat) : Bs := (s ++ List.replicate (n - s.length) 0).take n
def nonceL (n : Nat) : Bs := List.replicate 4 0 ++ putB n 8
theorem turnL_add (k : Bs) (a b : Nat) : turnL (turnL k a) b = turnL k (a + b) := by
  induction b with
  | zero => rfl
  | succ b ih => rw [turnL, ih]; rfl
end Go.Esc
namespace Go.Proofs.YtlbdbmnkjljohaaGreat
open Go.RowKit Go.Esc
theorem nextL_length (k : Bs) : (nextL k).length = 32 := expandL_length _ _ _
theorem turnL_length (k : Bs) (n : Nat) (hk : k.length ≤ 100000) : (turnL k n).length ≤ 100000 := by
  cases n with
  | zero => exact hk
  | succ n => rw [turnL, nextL_length]; omega
theorem turnL_length2 (k : Bs) (n : Nat) (h : 0 < n) : (turnL k n).length = 32 := by
  obtain ⟨m, rfl⟩ : ∃ m, n = m + 1 := ⟨n - 1, by omega⟩
  exact nextL_length _
theorem nonceL_length (n : Nat) : (nonceL n).length = 12 := by simp [nonceL, putB_length]
set_option maxHeartbeats 800000 in
theorem fill (s : Bs) (n : Nat) (h : s.length ≤ n) (hn : n ≤ 100000) (w : World) :
    Calls Tryz.prog 16 #[S s, .int .i64 (n : Int)] w fun e w' => e = .returned (S (fillL s n)) ∧ w' = w := by
  have k0 : (ByteArray.mk #[0]) = bs [0] := rfl
  go_enter Tryz.func16, Tryz.ntmps16
  go_wp2_with fail
  go_loop [0] (fun v => ∃ k : Nat, s.length + k ≤ n ∧ v = S (s ++ List.replicate k 0)) (fun v => match v with | .string x => n - x.size | _ => 0)
  case atStart => exact ⟨0, by omega, by simp⟩
  case round =>
    obtain ⟨k, hk, rfl⟩ := hrel
    obtain ⟨cur, hcur⟩ : ∃ c, c = s ++ List.replicate k 0 := ⟨_, rfl⟩
    have hcl : cur.length = s.length + k := by rw [hcur]; simp
    have hnx : cur ++ [0] = s ++ List.replicate (k+1) 0 := by rw [hcur, List.replicate_succ', List.append_assoc]
    rw [← hcur]
    have z9 : ¬ (9223372036854775807 < cur.length + 1) := by omega
    by_cases hlt : cur.length < n
    · have hlt' : (cur.length : Int) < n := by omega
      have HC := Lib.hid hcl
      have HN := Lib.hid hnx
      clear hcl hnx hcur
      go_wp2_with fail
      go_round
      case rel => have := HC.out; exact ⟨k + 1, by omega, by rw [HN.out]⟩
      case measure => simp [bs_size]; omega
    · have hlt' : decide ((cur.length : Int) < n) = false := by simp; omega
      have hle : (n : Int) ≤ cur.length := by omega
      have hfin : fillL s n = cur.take n := by rw [fillL, hcur, show n - s.length = k by omega]
      have HF := Lib.hid hfin
      clear hcl hnx hcur hfin
      go_wp2_with fail
      go_ret
      exact ⟨by rw [HF.out]; rfl, rfl⟩
end Go.Proofs.YtlbdbmnkjljohaaGreat
set_option linter.unusedSimpArgs false
set_option linter.unusedVariables false
namespace Go.Proofs.YtlbdbmnkjljohaaGreat
open Go.RowKit Go.Esc
def upW : Bs := [117, 112]
def downW : Bs := [100, 111, 119, 110]
def keysV (secret salt : Bs) : List Value := [S (deriveL secret salt upW), S (deriveL secret salt downW)]
theorem deriveL_length (a b c : Bs) : (deriveL a b c).length = 32 := expandL_length _ _ _
set_option maxRecDepth 100000 in
set_option maxHeartbeats 1600000 in
theorem session (secret salt : Bs) (h : salt.length ≤ 100000) (h2 : secret.length ≤ 800000) (w : World) :
    Calls Tryz.prog 73 #[S secret, S salt] w fun e w' => e = .returned (.agg (keysV secret salt).toArray) ∧ Pu w w' := by
  have hi : (Tryz.prog.info? 44).map (·.size) = some 2 := by kernel_rfl
  have hK1 := fun w => deriveKey secret salt upW h h2 (by decide) w
  have hK2 := fun w => deriveKey secret salt downW h h2 (by decide) w
  obtain ⟨u, hu⟩ : ∃ u, u = deriveL secret salt upW := ⟨_, rfl⟩
  obtain ⟨d, hd⟩ : ∃ u, u = deriveL secret salt downW := ⟨_, rfl⟩
  have hkv : keysV secret salt = [S u, S d] := by rw [keysV, ← hu, ← hd]
  rw [hkv]
  rw [← hu] at hK1
  rw [← hd] at hK2
  have HK1 := Lib.hid hK1
  have HK2 := Lib.hid hK2
  have hb0 := (Pu.refl w).alloc (.cells #[.string ⟨#[]⟩, .string ⟨#[]⟩] 44)
  clear hK1 hK2 hu hd hkv
  go_enter Tryz.func73, Tryz.ntmps73
  go_wp2_with (first
    | (go_at_call 91; first
       | (refine (HK1.out _).mono ?_; rintro e w2 ⟨rfl, hp2⟩; clear HK1)
       | (refine (HK2.out _).mono ?_; rintro e w3 ⟨rfl, hp3⟩))
    | (refine wpList_store_part rfl 44 (.tmp 4) (.tmp 11) rfl w.heap.size 0 [S u, S d] (by rfl) (by rfl) (((Row.newAt w w.heap.size _ _ rfl rfl).pu hp2).pu hp3) hi (by simp) (by simp [Value.oneCell']) ?_; intro w4 hr4 hch4))
  rw [splice_all (by rfl)] at hr4
  have hrl := hr4.load (P := Tryz.prog) 44 0 2 Tryz.underlying44 rfl hi (by simp)
  (try simp only [Exit.inBlock, Exit.then])
  refine bodyPost_ret (results_cell_eq rfl _ _ rfl hrl) rfl ?_
  exact ⟨rfl, hch4.below ((hb0.trans hp2).trans hp3) (Nat.le_refl _)⟩
end Go.Proofs.YtlbdbmnkjljohaaGreat
set_option linter.unusedSimpArgs false
set_option linter.unusedVariables false
namespace Go.Proofs.YtlbdbmnkjljohaaGreat
open Go.RowKit Go.Esc
set_option maxRecDepth 100000 in
set_option maxHeartbeats 1600000 in
theorem refExpand (key info : Bs) (n : Int) (h : key.length ≤ 100000) (h2 : info.length ≤ 700000) (h0 : 0 ≤ n) (hm : n ≤ 8160) (w : World) :
    Calls Tryz.prog 94 #[S key, S info, .int .i64 n] w fun e w' => e = .returned (.tuple #[S (expandL key info n.toNat), .bool true]) ∧ Pu w w' := by
  obtain ⟨N, rfl⟩ := Int.eq_ofNat_of_zero_le h0
  have q1 : decide ((N : Int) < 0) = false := by simp
  have q2 : decide ((8160 : Int) < N) = false := by simp; omega
  have q3 : ¬ ((N : Int) < 0) := by omega
  have q4 : ¬ ((8160 : Int) < N) := by omega
  go_enter Tryz.func94, Tryz.ntmps94
  go_wp2_with fail
  go_loopw [8, 9, 10] (fun v l i wr => ∃ (k K : Nat), K = k + 1 ∧ 32 * k < N + 32 ∧ v = S (outE key info k) ∧ l = S (lastE key info k) ∧ i = .int .i64 (K : Int) ∧ Pu w wr) (fun _ _ i _ => N + 32 - 32 * (intOf i).toNat)
  case atStart => exact ⟨0, 1, rfl, by omega, rfl, rfl, rfl, Pu.refl _⟩
  case round =>
    obtain ⟨k, K, hK, hkn, rfl, rfl, rfl, hpu⟩ := hrel
    have hol := outE_length key info k
    have hll := lastE_length key info k
    have hnl : lastE key info (k + 1) = macL key (lastE key info k ++ info ++ [UInt8.ofNat (k+1)]) := rfl
    have hno : outE key info (k + 1) = outE key info k ++ lastE key info (k + 1) := rfl
    have hnl2 : (lastE key info (k + 1)).length = 32 := macL_length _ _
    obtain ⟨o, ho⟩ : ∃ o, o = outE key info k := ⟨_, rfl⟩
    obtain ⟨l, hl⟩ : ∃ o, o = lastE key info k := ⟨_, rfl⟩
    obtain ⟨l2, hl2⟩ : ∃ o, o = lastE key info (k+1) := ⟨_, rfl⟩
    rw [← ho] at hol hno ⊢
    rw [← hl] at hll hnl ⊢
    rw [← hl2] at hnl hno hnl2
    by_cases hlt : 32 * k < N
    · have hlt' : (o.length : Int) < N := by omega
      have hK256 : K < 256 := by omega
      have hmod : (K : Int) % 256 = K := by omega
      have hcv := one_byte_eq (P := Tryz.prog) wr K hK256 42 9 5 Tryz.underlying42 Tryz.underlying5 Tryz.underlying9
      obtain ⟨c1, hc1⟩ : ∃ c, c = UInt8.ofNat K := ⟨_, rfl⟩
      rw [← hc1] at hcv
      have hM := fun w => refMac key (l ++ (info ++ [c1])) (by omega) (by simp; omega) w
      rw [show macL key (l ++ (info ++ [c1])) = l2 by rw [hnl, hc1, hK, List.append_assoc]] at hM
      have HM := Lib.hid hM
      have z1 : ¬ (9223372036854775807 < l.length + info.length) := by omega
      have z2 : ¬ (9223372036854775807 < l.length + info.length + 1) := by omega
      have z2b : ¬ (9223372036854775807 < l.length + (info.length + 1)) := by omega
      have z3 : ¬ (9223372036854775807 < o.length + l2.length) := by omega
      have z4 : ¬ (9223372036854775807 < o.length + 32) := by omega
      have HO := Lib.hid ho
      have HL := Lib.hid hl
      have HL2 := Lib.hid hl2
      have HNO := Lib.hid hno
      have HKK := Lib.hid hK
      have HC1 := Lib.hid hc1
      clear hM ho hl hl2 hno hnl hK hc1
      go_wp2_with (go_at_call 50; refine (HM.out _).mono ?_; rintro e w1 ⟨rfl, hp1⟩)
      go_roundw
      case rel =>
        have hKK := HKK.out
        exact ⟨k + 1, K + 1, by omega, by omega, by rw [HNO.out], by rw [HL2.out], by go_num, (hpu.alloc _).trans hp1⟩
      case measure => have hKK := HKK.out; simp [intOf]; omega
    · have hlt' : decide ((o.length : Int) < N) = false := by simp; omega
      have hlt2 : (N : Int) ≤ o.length := by omega
      have hk : k = (N + 31) / 32 := by omega
      have hfin : expandL key info N = o.take N := by rw [expandL, ← hk, ho]
      have HF := Lib.hid hfin
      clear hfin ho hl hl2 hno hnl hK hk
      go_wp2_with fail
      go_ret2
      exact ⟨by rw [show ((N : Int)).toNat = N from rfl, HF.out]; rfl, hpu⟩
theorem refExpand_no (key info : Bs) (n : Int) (h : n < 0 ∨ 8160 < n) (w : World) :
    Calls Tryz.prog 94 #[S key, S info, .int .i64 n] w fun e w' => e = .returned (.tuple #[S [], .bool false]) ∧ Pu w w' := by
  by_cases h1 : n < 0
  · go_enter Tryz.func94, Tryz.ntmps94
    go_wp2_with fail
    go_ret2
    exact ⟨rfl, Pu.refl _⟩
  · have q1 : decide (n < 0) = false := by simp; omega
    have q2 : (8160 : Int) < n := by omega
    go_enter Tryz.func94, Tryz.ntmps94
    go_wp2_with fail
    go_ret2
    exact ⟨rfl, Pu.refl _⟩
theorem keyL_nil : keyL (List.replicate 32 0) = keyL [] := by decide
theorem macL_nil (b : Bs) : macL (List.replicate 32 0) b = macL [] b := by rw [macL, macL, keyL_nil]
theorem refExtract (salt secret : Bs) (h : salt.length ≤ 100000) (h2 : secret.length ≤ 800000) (w : World) :
    Calls Tryz.prog 95 #[S salt, S secret] w fun e w' => e = .returned (S (macL salt secret)) ∧ Pu w w' := by
  have hemp : (ByteArray.mk #[]) = bs [] := rfl
  by_cases hs : salt = []
  · subst hs
    have hM := fun w => refMac (List.replicate 32 0) secret (by simp) h2 w
    have hZ := fun w => refZeros 32 (by decide) w
    rw [macL_nil] at hM
    obtain ⟨z, hz⟩ : ∃ z, z = List.replicate 32 (0 : UInt8) := ⟨_, rfl⟩
    rw [← hz] at hM hZ
    have HM := Lib.hid hM
    have HZ := Lib.hid hZ
    clear hM hZ hz
    go_enter Tryz.func95, Tryz.ntmps95
    go_wp2_with (first
      | (go_at_call 70; refine (HZ.out _).mono ?_; rintro e w1 ⟨rfl, hp1⟩)
      | (go_at_call 50; refine (HM.out _).mono ?_; rintro e w2 ⟨rfl, hp2⟩))
    go_ret
    exact ⟨rfl, hp1.trans hp2⟩
  · have hM := fun w => refMac salt secret h h2 w
    have HM := Lib.hid hM
    have hne2 : salt.isEmpty = false := by cases salt with | nil => exact absurd rfl hs | cons _ _ => rfl
    clear hM
    go_enter Tryz.func95, Tryz.ntmps95
    go_wp2_with (go_at_call 50; refine (HM.out _).mono ?_; rintro e w2 ⟨rfl, hp2⟩)
    go_ret
    exact ⟨rfl, hp2⟩
theorem refKey (secret salt info : Bs) (h : salt.length ≤ 100000) (h2 : secret.length ≤ 800000) (h3 : info.length ≤ 700000) (w : World) :
    Calls Tryz.prog 75 #[S secret, S salt, S info] w fun e w' => e = .returned (S (deriveL secret salt info)) ∧ Pu w w' := by
  have hM := fun w => refExtract salt secret h h2 w
  obtain ⟨k, hk⟩ : ∃ k, k = macL salt secret := ⟨_, rfl⟩
  have hkl : k.length = 32 := by rw [hk]; exact macL_length _ _
  have hE := fun w => refExpand k info 32 (by omega) h3 (by decide) (by decide) w
  obtain ⟨r, hr⟩ : ∃ r, r = expandL k info 32 := ⟨_, rfl⟩
  rw [show (32 : Int).toNat = 32 from rfl, ← hr] at hE
  rw [← hk] at hM
  have hfin : deriveL secret salt info = r := by rw [deriveL, ← hk, ← hr]
  have HM := Lib.hid hM
  have HE := Lib.hid hE
  have HF := Lib.hid hfin
  clear hM hE hk hr hfin
  go_enter Tryz.func75, Tryz.ntmps75
  go_wp2_with (first
    | (go_at_call 95; refine (HM.out _).mono ?_; rintro e w1 ⟨rfl, hp1⟩)
    | (go_at_call 94; refine (HE.out _).mono ?_; rintro e w2 ⟨rfl, hp2⟩))
  go_ret
  exact ⟨by rw [HF.out]; rfl, hp1.trans hp2⟩
end Go.Proofs.YtlbdbmnkjljohaaGreat
set_option linter.unusedSimpArgs false
set_option linter.unusedVariables false
namespace Go.Proofs.YtlbdbmnkjljohaaGreat
open Go.RowKit Go.Esc
set_option maxRecDepth 100000 in
set_option maxHeartbeats 1600000 in
theorem refSession (secret salt : Bs) (h : salt.length ≤ 100000) (h2 : secret.length ≤ 800000) (w : World) :
    Calls Tryz.prog 56 #[S secret, S salt] w fun e w' => e = .returned (.agg (keysV secret salt).toArray) ∧ Pu w w' := by
  have hi : (Tryz.prog.info? 44).map (·.size) = some 2 := by kernel_rfl
  have hK1 := fun w => refKey secret salt upW h h2 (by decide) w
  have hK2 := fun w => refKey secret salt downW h h2 (by decide) w
  obtain ⟨u, hu⟩ : ∃ u, u = deriveL secret salt upW := ⟨_, rfl⟩
  obtain ⟨d, hd⟩ : ∃ u, u = deriveL secret salt downW := ⟨_, rfl⟩
  have hkv : keysV secret salt = [S u, S d] := by rw [keysV, ← hu, ← hd]
  rw [hkv]
  rw [← hu] at hK1
  rw [← hd] at hK2
  have HK1 := Lib.hid hK1
  have HK2 := Lib.hid hK2
  have hb0 := (Pu.refl w).alloc (.cells #[.string ⟨#[]⟩, .string ⟨#[]⟩] 44)
  clear hK1 hK2 hu hd hkv
  go_enter Tryz.func56, Tryz.ntmps56
  go_wp2_with (first
    | (go_at_call 75; first
       | (refine (HK1.out _).mono ?_; rintro e w2 ⟨rfl, hp2⟩; clear HK1)
       | (refine (HK2.out _).mono ?_; rintro e w3 ⟨rfl, hp3⟩))
    | (refine wpList_store_part rfl 44 (.tmp 4) (.tmp 11) rfl w.heap.size 0 [S u, S d] (by rfl) (by rfl) (((Row.newAt w w.heap.size _ _ rfl rfl).pu hp2).pu hp3) hi (by simp) (by simp [Value.oneCell']) ?_; intro w4 hr4 hch4))
  rw [splice_all (by rfl)] at hr4
  have hrl := hr4.load (P := Tryz.prog) 44 0 2 Tryz.underlying44 rfl hi (by simp)
  (try simp only [Exit.inBlock, Exit.then])
  refine bodyPost_ret (results_cell_eq rfl _ _ rfl hrl) rfl ?_
  exact ⟨rfl, hch4.below ((hb0.trans hp2).trans hp3) (Nat.le_refl _)⟩
end Go.Proofs.YtlbdbmnkjljohaaGreat
set_option linter.unusedSimpArgs false
set_option linter.unusedVariables false
namespace Go.Proofs.YtlbdbmnkjljohaaGreat
open Go.RowKit Go.Esc
set_option maxRecDepth 100000 in
theorem letterW (k : Nat) (hk : k < 256) (b : Bs) (hb : b.length ≤ 100000) (w : World) :
    Calls Tryz.prog 44 #[.int .i64 (k : Int), S b] w fun e w' => e = .returned (S (UInt8.ofNat k :: b)) ∧ Pu w w' := by
  have hm : (k : Int) % 256 = k := by omega
  have hcv := one_byte_eq (P := Tryz.prog) w k hk 42 9 5 Tryz.underlying42 Tryz.underlying5 Tryz.underlying9
  obtain ⟨c, hc⟩ : ∃ c, c = UInt8.ofNat k := ⟨_, rfl⟩
  rw [← hc] at hcv ⊢
  have z1 : ¬ (9223372036854775807 < b.length + 1) := by omega
  have z2 : ¬ (9223372036854775807 < 1 + b.length) := by omega
  clear hc hb
  go_enter Tryz.func44, Tryz.ntmps44
  go_wp2_with fail
  go_ret
  exact ⟨rfl, (Pu.refl w).alloc _⟩
set_option maxRecDepth 100000 in
theorem refHello (u n : Bs) (hu : u.length ≤ 80000) (hn : n.length ≤ 10000) (w : World) :
    Calls Tryz.prog 15 #[.agg #[S u, S n]] w fun e w' => e = .returned (.tuple #[S (optV (helloR u n)), .bool (helloR u n).isSome]) ∧ Pu w w' := by
  have hp0 := (Pu.refl w).alloc (.cells #[S u, S n] 32)
  by_cases h1 : n.length = 16
  · have k1 : (n.length : Int) = 16 := by omega
    by_cases h2 : u.length < 1
    · have k2 : (u.length : Int) < 1 := by omega
      have e9 : helloR u n = none := by unfold helloR; rw [if_neg (fun h => by obtain ⟨_, _, _⟩ := h; omega)]
      rw [e9]
      clear h1 e9
      go_enter Tryz.func15, Tryz.ntmps15
      go_wp2_with fail
      go_ret2
      exact ⟨rfl, hp0⟩
    · have k2 : ¬ (u.length : Int) < 1 := by omega
      by_cases h3 : 20 < u.length
      · have k3 : (20 : Int) < u.length := by omega
        have e9 : helloR u n = none := by unfold helloR; rw [if_neg (fun h => by obtain ⟨_, _, _⟩ := h; omega)]
        rw [e9]
        clear h1 e9
        go_enter Tryz.func15, Tryz.ntmps15
        go_wp2_with fail
        go_ret2
        exact ⟨rfl, hp0⟩
      · have k3 : ¬ (20 : Int) < u.length := by omega
        have e9 : helloR u n = some (helloL u n) := by unfold helloR; rw [if_pos ⟨h1, by omega, by omega⟩]
        rw [e9]
        have hcv := one_byte_eq (P := Tryz.prog) (w.alloc (.cells #[S u, S n] 32)) u.length (by omega) 42 9 5 Tryz.underlying42 Tryz.underlying5 Tryz.underlying9
        rw [show (w.alloc (.cells #[S u, S n] 32)).heap.size = w.heap.size + 1 by simp] at hcv
        have hm : (u.length : Int) % 256 = u.length := by omega
        have hL : helloL u n = 1 :: (UInt8.ofNat u.length :: (u ++ n)) := rfl
        obtain ⟨c, hc⟩ : ∃ c, c = UInt8.ofNat u.length := ⟨_, rfl⟩
        rw [← hc] at hL hcv
        have hlt := fun w => letterW 1 (by decide) (c :: (u ++ n)) (by simp; omega) w
        rw [show UInt8.ofNat 1 :: (c :: (u ++ n)) = helloL u n by rw [hL]; rfl] at hlt
        obtain ⟨o, ho⟩ : ∃ o, o = helloL u n := ⟨_, rfl⟩
        rw [← ho] at hlt ⊢
        have HLT := Lib.hid hlt
        have hp1 := hp0.alloc (.cells #[.int .u8 (u.length : Int)] 5)
        have z1 : ¬ (9223372036854775807 < u.length + 1) := by omega
        have z2 : ¬ (9223372036854775807 < u.length + n.length + 1) := by omega
        have z3 : ¬ (9223372036854775807 < 1 + u.length) := by omega
        have z4 : ¬ (9223372036854775807 < 1 + u.length + n.length) := by omega
        have z5 : ¬ (9223372036854775807 < u.length + 1 + n.length) := by omega
        clear h1 hL e9 hc hlt ho
        go_enter Tryz.func15, Tryz.ntmps15
        go_wp2_with (go_at_call 44; refine (HLT.out _).mono ?_; rintro e w2 ⟨rfl, hp2⟩)
        go_ret2
        exact ⟨rfl, hp1.trans hp2⟩
  · have k1 : ¬ (n.length : Int) = 16 := by omega
    have e9 : helloR u n = none := by unfold helloR; rw [if_neg (fun h => by obtain ⟨_, _, _⟩ := h; omega)]
    rw [e9]
    go_enter Tryz.func15, Tryz.ntmps15
    go_wp2_with fail
    go_ret2
    exact ⟨rfl, hp0⟩
set_option maxRecDepth 100000 in
theorem fixedW (k n : Nat) (hk : k < 256) (hn : n ≤ 1000) (b : Bs) (hb : b.length ≤ 100000) (w : World) :
    Calls Tryz.prog 17 #[.int .i64 (k : Int), .int .i64 (n : Int), S b] w fun e w' => e = .returned (.tuple #[S (optV (fixR k n b)), .bool (fixR k n b).isSome]) ∧ w' = w := by
  have kw : IntKind.i64.wrap (1 + (n : Int)) = 1 + (n : Int) := by rw [IntKind.wrap_i64]; omega
  by_cases h1 : b.length = n + 1
  · match b, h1 with
    | c :: r, h1 =>
      have hc := c.toNat_lt
      have kc : IntKind.i64.wrap (c.toNat : Int) = c.toNat := by rw [IntKind.wrap_i64]; omega
      have hr : r.length = n := by simpa using h1
      have k0 : (0 : Int) < (r.length : Int) + 1 := by omega
      have k9 : (1 : Int) ≤ (r.length : Int) + 1 := by omega
      have k1 : ((r.length : Int) + 1 != 1 + (n : Int)) = false := by simp; omega
      by_cases h2 : c.toNat = k
      · have e9 : fixR k n (c :: r) = some r := by unfold fixR; rw [if_pos ⟨h1, h2⟩]; rfl
        rw [e9]
        have k2 : (c.toNat : Int) = k := by omega
        clear e9 h1 hr h2
        go_enter Tryz.func17, Tryz.ntmps17
        go_wp2_with fail
        go_ret2
        exact ⟨rfl, rfl⟩
      · have e9 : fixR k n (c :: r) = none := by unfold fixR; rw [if_neg (fun h => h2 h.2)]
        rw [e9]
        have k2 : ¬ (c.toNat : Int) = k := by omega
        clear e9 h1 hr h2
        go_enter Tryz.func17, Tryz.ntmps17
        go_wp2_with fail
        go_ret2
        exact ⟨rfl, rfl⟩
  · have e9 : fixR k n b = none := by unfold fixR; rw [if_neg (fun h => h1 h.1)]
    rw [e9]
    have k1 : ((b.length : Int) != 1 + (n : Int)) = true := by simp; omega
    clear e9 h1
    go_enter Tryz.func17, Tryz.ntmps17
    go_wp2_with fail
    go_ret2
    exact ⟨rfl, rfl⟩
set_option maxRecDepth 100000 in
theorem refProof (secret papers : Bs) (h : secret.length ≤ 100000) (h2 : papers.length ≤ 100000) (w : World) :
    Calls Tryz.prog 19 #[S secret, S papers] w fun e w' => e = .returned (S (proofL secret papers)) ∧ Pu w w' := by
  have hM := fun w => refMac secret (proofW ++ papers) h (by simp [proofW]; omega) w
  obtain ⟨o, ho⟩ : ∃ o, o = proofL secret papers := ⟨_, rfl⟩
  rw [show macL secret (proofW ++ papers) = o by rw [ho]; rfl] at hM
  rw [← ho]
  have HM := Lib.hid hM
  have kW : (ByteArray.mk #[112, 114, 111, 111, 102]) = bs proofW := rfl
  have z1 : ¬ (9223372036854775807 < (proofW).length + papers.length) := by simp [proofW]; omega
  have z2 : ¬ (9223372036854775807 < 5 + papers.length) := by omega
  have z3 : ¬ (9223372036854775807 < papers.length + 5) := by omega
  clear hM ho
  go_enter Tryz.func19, Tryz.ntmps19
  go_wp2_with (go_at_call 50; refine (HM.out _).mono ?_; rintro e w1 ⟨rfl, hp1⟩)
  go_ret
  exact ⟨rfl, hp1⟩
set_option maxRecDepth 100000 in
theorem refFinish (secret papers : Bs) (h : secret.length ≤ 100000) (h2 : papers.length ≤ 100000) (w : World) :
    Calls Tryz.prog 21 #[S secret, S papers] w fun e w' => e = .returned (S (finishL secret papers)) ∧ Pu w w' := by
  have hM := fun w => refMac secret (finishW ++ papers) h (by simp [finishW]; omega) w
  obtain ⟨o, ho⟩ : ∃ o, o = finishL secret papers := ⟨_, rfl⟩
  rw [show macL secret (finishW ++ papers) = o by rw [ho]; rfl] at hM
  rw [← ho]
  have HM := Lib.hid hM
  have kW : (ByteArray.mk #[102, 105, 110, 105, 115, 104]) = bs finishW := rfl
  have z1 : ¬ (9223372036854775807 < (finishW).length + papers.length) := by simp [finishW]; omega
  have z2 : ¬ (9223372036854775807 < 6 + papers.length) := by omega
  have z3 : ¬ (9223372036854775807 < papers.length + 6) := by omega
  clear hM ho
  go_enter Tryz.func21, Tryz.ntmps21
  go_wp2_with (go_at_call 50; refine (HM.out _).mono ?_; rintro e w1 ⟨rfl, hp1⟩)
  go_ret
  exact ⟨rfl, hp1⟩
set_option maxRecDepth 100000 in
theorem proofW1 (secret papers : Bs) (h : secret.length ≤ 100000) (h2 : papers.length ≤ 100000) (w : World) :
    Calls Tryz.prog 49 #[S secret, S papers] w fun e w' => e = .returned (S (proofL secret papers)) ∧ Pu w w' := by
  have hM := fun w => macOf secret (proofW ++ papers) h (by simp [proofW]; omega) w
  obtain ⟨o, ho⟩ : ∃ o, o = proofL secret papers := ⟨_, rfl⟩
  rw [show macL secret (proofW ++ papers) = o by rw [ho]; rfl] at hM
  rw [← ho]
  have HM := Lib.hid hM
  have kW : (ByteArray.mk #[112, 114, 111, 111, 102]) = bs proofW := rfl
  have z1 : ¬ (9223372036854775807 < (proofW).length + papers.length) := by simp [proofW]; omega
  have z2 : ¬ (9223372036854775807 < 5 + papers.length) := by omega
  have z3 : ¬ (9223372036854775807 < papers.length + 5) := by omega
  clear hM ho
  go_enter Tryz.func49, Tryz.ntmps49
  go_wp2_with (go_at_call 69; refine (HM.out _).mono ?_; rintro e w1 ⟨rfl, hp1⟩)
  go_ret
  exact ⟨rfl, hp1⟩
set_option maxRecDepth 100000 in
theorem finishW1 (secret papers : Bs) (h : secret.length ≤ 100000) (h2 : papers.length ≤ 100000) (w : World) :
    Calls Tryz.prog 54 #[S secret, S papers] w fun e w' => e = .returned (S (finishL secret papers)) ∧ Pu w w' := by
  have hM := fun w => macOf secret (finishW ++ papers) h (by simp [finishW]; omega) w
  obtain ⟨o, ho⟩ : ∃ o, o = finishL secret papers := ⟨_, rfl⟩
  rw [show macL secret (finishW ++ papers) = o by rw [ho]; rfl] at hM
  rw [← ho]
  have HM := Lib.hid hM
  have kW : (ByteArray.mk #[102, 105, 110, 105, 115, 104]) = bs finishW := rfl
  have z1 : ¬ (9223372036854775807 < (finishW).length + papers.length) := by simp [finishW]; omega
  have z2 : ¬ (9223372036854775807 < 6 + papers.length) := by omega
  have z3 : ¬ (9223372036854775807 < papers.length + 6) := by omega
  clear hM ho
  go_enter Tryz.func54, Tryz.ntmps54
  go_wp2_with (go_at_call 69; refine (HM.out _).mono ?_; rintro e w1 ⟨rfl, hp1⟩)
  go_ret
  exact ⟨rfl, hp1⟩
/-- The keys of a session. -/
def sesV (secret papers : Bs) : List Value := keysV secret (sha papers)
set_option maxRecDepth 100000 in
theorem refKeys (secret papers : Bs) (h : secret.length ≤ 100000) (h2 : papers.length ≤ 100000) (w : World) :
    Calls Tryz.prog 23 #[S secret, S papers] w fun e w' => e = .returned (.agg (sesV secret papers).toArray) ∧ Pu w w' := by
  have hi : (Tryz.prog.info? 44).map (·.size) = some 2 := by kernel_rfl
  have hS := fun w => refSum papers (by omega) w
  have hK := fun w => refSession secret (sha papers) (by rw [sha_len]; omega) (by omega) w
  obtain ⟨d, hd⟩ : ∃ d, d = sha papers := ⟨_, rfl⟩
  have e9 : sesV secret papers = [S (deriveL secret d upW), S (deriveL secret d downW)] := by rw [hd]; rfl
  rw [e9]
  rw [show keysV secret (sha papers) = [S (deriveL secret (sha papers) upW), S (deriveL secret (sha papers) downW)] from rfl] at hK
  rw [← hd] at hS hK
  obtain ⟨a, ha⟩ : ∃ a, a = deriveL secret d upW := ⟨_, rfl⟩
  obtain ⟨b, hb⟩ : ∃ a, a = deriveL secret d downW := ⟨_, rfl⟩
  rw [← ha, ← hb] at hK ⊢
  have HS := Lib.hid hS
  have HK := Lib.hid hK
  have hp0 := (Pu.refl w).alloc (.cells #[.string ⟨#[]⟩, .string ⟨#[]⟩] 44)
  clear hS hK e9 hd ha hb
  go_enter Tryz.func23, Tryz.ntmps23
  go_wp2_with (first
    | (go_at_call 57; refine (HS.out _).mono ?_; rintro e w2 ⟨rfl, hp2⟩)
    | (go_at_call 56; refine (HK.out _).mono ?_; rintro e w3 ⟨rfl, hp3⟩)
    | (refine wpList_store_part rfl 44 (.tmp 4) (.tmp 8) rfl w.heap.size 0 [S a, S b] (by rfl) (by rfl) (((Row.newAt w w.heap.size _ _ rfl rfl).pu hp2).pu hp3) hi (by simp) (by simp [Value.oneCell']) ?_; intro w4 hr4 hch4))
  rw [splice_all (by rfl)] at hr4
  have hrl := hr4.load (P := Tryz.prog) 44 0 2 Tryz.underlying44 rfl hi (by simp)
  (try simp only [Exit.inBlock, Exit.then])
  refine bodyPost_ret (results_cell_eq rfl _ _ rfl hrl) rfl ?_
  exact ⟨rfl, hch4.below ((hp0.trans hp2).trans hp3) (Nat.le_refl _)⟩
set_option maxRecDepth 100000 in
theorem keysW (secret papers : Bs) (h : secret.length ≤ 100000) (h2 : papers.length ≤ 100000) (w : World) :
    Calls Tryz.prog 55 #[S secret, S papers] w fun e w' => e = .returned (.agg (sesV secret papers).toArray) ∧ Pu w w' := by
  have hi : (Tryz.prog.info? 44).map (·.size) = some 2 := by kernel_rfl
  have hS := fun w => sum papers (by omega) w
  have hK := fun w => session secret (sha papers) (by rw [sha_len]; omega) (by omega) w
  obtain ⟨d, hd⟩ : ∃ d, d = sha papers := ⟨_, rfl⟩
  have e9 : sesV secret papers = [S (deriveL secret d upW), S (deriveL secret d downW)] := by rw [hd]; rfl
  rw [e9]
  rw [show keysV secret (sha papers) = [S (deriveL secret (sha papers) upW), S (deriveL secret (sha papers) downW)] from rfl] at hK
  rw [← hd] at hS hK
  obtain ⟨a, ha⟩ : ∃ a, a = deriveL secret d upW := ⟨_, rfl⟩
  obtain ⟨b, hb⟩ : ∃ a, a = deriveL secret d downW := ⟨_, rfl⟩
  rw [← ha, ← hb] at hK ⊢
  have HS := Lib.hid hS
  have HK := Lib.hid hK
  have hp0 := (Pu.refl w).alloc (.cells #[.string ⟨#[]⟩, .string ⟨#[]⟩] 44)
  clear hS hK e9 hd ha hb
  go_enter Tryz.func55, Tryz.ntmps55
  go_wp2_with (first
    | (go_at_call 74; refine (HS.out _).mono ?_; rintro e w2 ⟨rfl, hp2⟩)
    | (go_at_call 73; refine (HK.out _).mono ?_; rintro e w3 ⟨rfl, hp3⟩)
    | (refine wpList_store_part rfl 44 (.tmp 4) (.tmp 8) rfl w.heap.size 0 [S a, S b] (by rfl) (by rfl) (((Row.newAt w w.heap.size _ _ rfl rfl).pu hp2).pu hp3) hi (by simp) (by simp [Value.oneCell']) ?_; intro w4 hr4 hch4))
  rw [splice_all (by rfl)] at hr4
  have hrl := hr4.load (P := Tryz.prog) 44 0 2 Tryz.underlying44 rfl hi (by simp)
  (try simp only [Exit.inBlock, Exit.then])
  refine bodyPost_ret (results_cell_eq rfl _ _ rfl hrl) rfl ?_
  exact ⟨rfl, hch4.below ((hp0.trans hp2).trans hp3) (Nat.le_refl _)⟩
end Go.Proofs.YtlbdbmnkjljohaaGreat
namespace Go.Esc
open Go Go.RowKit
/-- What an operation awaits. -/
def awaits (ops : Array Oper) (i : Nat) : List Nat := ((ops[i]?).map fun o => (o.after.toList.filter fun e => Region.binds .any e).map (·.on)).getD []
/-- For each operation those that it awaits, also through others. -/
def ups (ops : Array Oper) : List (List Nat) := (List.range ops.size).foldl (fun acc i => acc ++ [((awaits ops i) ++ (awaits ops i).flatMap (fun e => acc.getD e [])).eraseDups]) []
def upOk (ops : Array Oper) (up : List (List Nat)) : Bool := (List.range ops.size).all fun i => (up.getD i []).all fun k => (awaits ops i).any fun e => e == k || (up.getD e []).contains k
def chainOk (up : List (List Nat)) (chain : List Nat) (n : Nat) : Bool := (List.range chain.length).all fun q => decide (chain.getD q 0 < n) && (List.range q).all fun r => (up.getD (chain.getD q 0) []).contains (chain.getD r 0) && !(chain.getD q 0 == chain.getD r 0)
def loOf (up : List (List Nat)) (chain : List Nat) (i : Nat) : Nat := (List.range chain.length).foldl (fun m q => if (up.getD i []).contains (chain.getD q 0) then q + 1 else m) 0
def hiOf (up : List (List Nat)) (chain : List Nat) (i : Nat) : Nat := (List.range chain.length).foldr (fun q m => if (up.getD (chain.getD q 0) []).contains i || chain.getD q 0 == i then q else m) chain.length
theorem loOf_le {up : List (List Nat)} {chain : List Nat} {i s : Nat} (h : ∀ q, q < chain.length → (up.getD i []).contains (chain.getD q 0) = true → q < s) : loOf up chain i ≤ s := by
  have key : ∀ (l : List Nat) (m : Nat), m ≤ s → (∀ q ∈ l, q < chain.length) → l.foldl (fun m q => if (up.getD i []).contains (chain.getD q 0) then q + 1 else m) m ≤ s := by
    intro l
    induction l with
    | nil => intro m hm _; exact hm
    | cons q l ih =>
      intro m hm hl
      simp only [List.foldl_cons]
      refine ih _ ?_ fun q' hq => hl q' (by simp [hq])
      split
      · next hc => exact h q (hl q (by simp)) hc
      · exact hm
  exact key _ 0 (Nat.zero_le _) fun q hq => List.mem_range.1 hq
theorem hiOf_ge {up : List (List Nat)} {chain : List Nat} {i s : Nat} (hs : s ≤ chain.length) (h : ∀ q, q < chain.length → ((up.getD (chain.getD q 0) []).contains i || chain.getD q 0 == i) = true → s ≤ q) : s ≤ hiOf up chain i := by
  have key : ∀ (l : List Nat), (∀ q ∈ l, q < chain.length) → s ≤ l.foldr (fun q m => if (up.getD (chain.getD q 0) []).contains i || chain.getD q 0 == i then q else m) chain.length := by
    intro l
    induction l with
    | nil => intro _; exact hs
    | cons q l ih =>
      intro hl
      simp only [List.foldr_cons]
      split
      · next hc => exact h q (hl q (by simp)) hc
      · exact ih fun q' hq => hl q' (by simp [hq])
  exact key _ fun q hq => List.mem_range.1 hq
section
variable {P : Program} {ops : Array Oper} {Q : Exit → Act → World → Prop}
/-- What is asked of an operation: of the chain's number s, that it leads from state s to the next one; of another one, that it makes new blocks at most. -/
def OpOkC (P : Program) (ops : Array Oper) (Q : Exit → Act → World → Prop) (g : Nat) (up : List (List Nat)) (chain : List Nat) (C : Nat → World → Prop) (Φs : List (Value → World → Prop)) (a : Act) (w : World) (i : Nat) (o : Oper) : Prop :=
  ∀ (a' : Act) (w' : World) (s : Nat), (∀ t : Nat, isDst ops t = false → a'.tmps[t]?.getD undef = a.tmps[t]?.getD undef) → But g w w' → C s w' → loOf up chain i ≤ s → s ≤ hiOf up chain i →
    (∀ e ∈ o.after.toList, Region.binds .any e = true → Φs.getD e.on Any (match (ops[e.on]?).bind (·.dst) with | some d => a'.tmps[d]?.getD undef | none => undef) w') →
    if chain.contains i then (chain[s]? = some i → wpOp P ops Q i (fun a'' w'' => ∃ v, a'' = a'.put o.dst v ∧ (Φs.getD i Any (if o.dst.isSome then v else undef) w'' ∧ C (s+1) w'') ∧ But g w' w'') a' w')
    else wpOp P ops Q i (fun a'' w'' => ∃ v, a'' = a'.put o.dst v ∧ Φs.getD i Any (if o.dst.isSome then v else undef) w'' ∧ Pu w' w'') a' w'
theorem region_chain (id : Nat) (g : Nat) (chain : List Nat) (C : Nat → World → Prop) (Φs : List (Value → World → Prop)) {a : Act} {w : World}
    (hm : P.follows .mixedOrders = true) (hE : edgesBack ops = true) (hD : dstsApart ops = true) (hup : upOk ops (ups ops) = true) (hch : chainOk (ups ops) chain ops.size = true)
    [hΦ : AllStableB g Φs] (hC : ∀ s a b, C s a → Pu a b → C s b) (hC0 : C 0 w)
    (hsize : (ops.toList.all fun o => match o.dst with | some d => decide (d < a.tmps.size) | none => true) = true)
    (hop : AllOps (OpOkC P ops Q g (ups ops) chain C Φs a w) 0 ops.toList)
    (hend : ∀ (a' : Act) (w' : World), a'.defers = a.defers → a'.tmps.size = a.tmps.size → (∀ t : Nat, isDst ops t = false → a'.tmps[t]?.getD undef = a.tmps[t]?.getD undef) → But g w w' → C chain.length w' →
      AllOps (fun j oj => Φs.getD j Any (match oj.dst with | some d => a'.tmps[d]?.getD undef | none => undef) w') 0 ops.toList → Q .normal a' w') :
    (Code.region id ops true).wp P Q a w := by
  refine wp_region_any hm ?_
  obtain ⟨up, hupe⟩ : ∃ up, up = ups ops := ⟨_, rfl⟩
  rw [← hupe] at hup hch hop
  clear hupe
  let Φ : Nat → Value → World → Prop := fun i => Φs.getD i Any
  have hkeep : ∀ i v a b, Φ i v a → But g a b → Φ i v b := by
    intro i v a b h hc
    by_cases hi : i < Φs.length
    · have e : Φs.getD i Any = Φs[i] := by simp [List.getD, List.getElem?_eq_getElem hi]
      simp only [Φ, e] at h ⊢
      exact hΦ.keep _ (List.getElem_mem hi) _ _ _ h hc
    · have e : Φs.getD i Any = Any := by simp [List.getD, List.getElem?_eq_none (by omega : Φs.length ≤ i)]
      simp only [Φ, e]; trivial
  have hchain : ∀ q, q < chain.length → chain.getD q 0 < ops.size ∧ ∀ r, r < q → (up.getD (chain.getD q 0) []).contains (chain.getD r 0) = true ∧ chain.getD q 0 ≠ chain.getD r 0 := by
    intro q hq
    simp only [chainOk, List.all_eq_true, List.mem_range, Bool.and_eq_true, decide_eq_true_eq] at hch
    obtain ⟨h1, h2⟩ := hch q hq
    refine ⟨h1, fun r hr => ?_⟩
    obtain ⟨h3, h4⟩ := h2 r hr
    exact ⟨h3, by simpa using h4⟩
  have hinj : ∀ q r, q < chain.length → r < chain.length → chain.getD q 0 = chain.getD r 0 → q = r := by
    intro q r hq hr he
    rcases Nat.lt_trichotomy q r with h | h | h
    · exact absurd he.symm ((hchain r hr).2 q h).2
    · exact h
    · exact absurd he ((hchain q hq).2 r h).2
  let Inv : Array Bool → Act → World → Prop := fun listed a' w' => listed.size = ops.size ∧ a'.defers = a.defers ∧ a'.tmps.size = a.tmps.size ∧
    (∀ t : Nat, isDst ops t = false → a'.tmps[t]?.getD undef = a.tmps[t]?.getD undef) ∧ But g w w' ∧
    (∀ j, listed[j]? = some true → ∀ k, (up.getD j []).contains k = true → listed[k]? = some true) ∧
    (∃ s, s ≤ chain.length ∧ C s w' ∧ ∀ q, q < chain.length → (listed[chain.getD q 0]? = some true ↔ q < s)) ∧
    ∀ (j : Nat) (oj : Oper), ops[j]? = some oj → listed[j]? = some true → Φ j (match oj.dst with | some d => a'.tmps[d]?.getD undef | none => undef) w'
  refine wpAny_inv .any Inv ?_ ?_ (fun _ _ _ h => h.1) ops.size _ a _ ?_ ?_
  · intro listed a' w' ⟨h1, h2, h3, h4, h5, hcl, ⟨s, hs1, hs2, hs3⟩, h6⟩ i hi
    simp only [Region.ready, List.mem_filter, List.mem_range, Bool.and_eq_true, Bool.not_eq_true'] at hi
    obtain ⟨hi1, hi2, hi3⟩ := hi
    have ho : ops[i]? = some ops[i] := Array.getElem?_eq_getElem hi1
    have hlt : i < listed.size := by omega
    have hif : listed[i]? = some false := by
      simp [Array.getD_eq_getD_getElem?, Array.getElem?_eq_getElem hlt] at hi2
      rw [Array.getElem?_eq_getElem hlt, hi2]
    have haw : ∀ e ∈ ops[i].after.toList, Region.binds .any e = true → listed[e.on]? = some true := by
      intro e he hb
      rw [ho] at hi3
      simp only [Option.map_some, Option.getD_some, Array.all_eq_true_iff_forall_mem] at hi3
      have h7 := hi3 e (by simpa using he)
      simp only [hb, Bool.not_true, Bool.false_or] at h7
      cases hq : listed[e.on]? with
      | none => simp [Array.getD_eq_getD_getElem?, hq] at h7
      | some x => simp [Array.getD_eq_getD_getElem?, hq] at h7; rw [h7]
    have hupi : ∀ k, (up.getD i []).contains k = true → listed[k]? = some true := by
      intro k hk
      simp only [upOk, List.all_eq_true, List.mem_range] at hup
      have h8 := hup i hi1 k (by simpa using hk)
      simp only [List.any_eq_true, Bool.or_eq_true, beq_iff_eq] at h8
      obtain ⟨e, he, hek⟩ := h8
      simp only [awaits, ho, Option.map_some, Option.getD_some, List.mem_map, List.mem_filter] at he
      obtain ⟨ed, ⟨hed1, hed2⟩, rfl⟩ := he
      have h9 := haw ed hed1 hed2
      rcases hek with rfl | hek
      · exact h9
      · exact hcl _ h9 k hek
    have hlo : loOf up chain i ≤ s := loOf_le fun q hq hc => (hs3 q hq).1 (hupi _ hc)
    have hhi : s ≤ hiOf up chain i := hiOf_ge hs1 fun q hq hc => by
      apply Nat.le_of_not_lt; intro hqs
      have h0 := (hs3 q hq).2 hqs
      have : listed[i]? = some true := by
        rcases Bool.or_eq_true _ _ ▸ hc with hc | hc
        · exact hcl _ h0 i hc
        · rw [← (by simpa using hc : chain.getD q 0 = i)]; exact h0
      rw [hif] at this; cases this
    have hk := hop.get i ops[i] (by simp)
    rw [Nat.zero_add] at hk
    have hk2 := hk a' w' s h4 h5 hs2 hlo hhi (fun e he hb => by
      have h8 := haw e he hb
      have hlt : e.on < ops.size := by
        have := (Array.getElem?_eq_some_iff.1 h8).1; omega
      have h9 := h6 e.on ops[e.on] (Array.getElem?_eq_getElem hlt) h8
      rw [Array.getElem?_eq_getElem hlt]
      exact h9)
    have hstep : ∀ (v : Value) (w'' : World), Φs.getD i Any (if ops[i].dst.isSome then v else undef) w'' → But g w' w'' → (∃ s', s' ≤ chain.length ∧ C s' w'' ∧ ∀ q, q < chain.length → ((listed.setIfInBounds i true)[chain.getD q 0]? = some true ↔ q < s')) →
        Inv (listed.setIfInBounds i true) (a'.put ops[i].dst v) w'' := by
      intro v w'' hv hR hS
      refine ⟨by simpa using h1, ?_, ?_, ?_, h5.trans hR, ?_, hS, ?_⟩
      · cases ops[i].dst <;> exact h2
      · cases ops[i].dst <;> simp [Act.put, h3]
      · intro t ht
        rw [← h4 t ht]
        have hne0 : ops[i].dst ≠ some t := by
          intro e
          have : isDst ops t = true := by
            simp only [isDst, Array.any_eq_true]
            exact ⟨i, hi1, by rw [e]; simp⟩
          rw [ht] at this; cases this
        cases hd : ops[i].dst with
        | none => rfl
        | some d =>
          have hne : d ≠ t := fun e => hne0 (by rw [hd, e])
          simp [Act.put, Array.getElem?_setIfInBounds_ne hne]
      · intro j hj k hk
        have hkl : listed[k]? = some true := by
          by_cases hij : i = j
          · subst hij; exact hupi k hk
          · rw [Array.getElem?_setIfInBounds_ne hij] at hj; exact hcl j hj k hk
        by_cases hik : i = k
        · subst hik; rw [Array.getElem?_setIfInBounds_self, if_pos hlt]
        · rw [Array.getElem?_setIfInBounds_ne hik]; exact hkl
      · intro j oj hj hl
        by_cases hij : i = j
        · subst hij
          rw [ho] at hj; cases hj
          cases hd : ops[i].dst with
          | none => rw [hd] at hv; exact hv
          | some d =>
            rw [hd] at hv
            have hdl : d < a'.tmps.size := by
              rw [h3]
              have := List.all_eq_true.1 hsize ops[i] (by simp)
              rw [hd] at this; simpa using this
            have hv' : Φ i v w'' := hv
            simpa [Act.put, Array.getElem?_setIfInBounds_self, hdl] using hv'
        · have hl' : listed[j]? = some true := by rw [Array.getElem?_setIfInBounds_ne hij] at hl; exact hl
          have hold := hkeep j _ _ _ (h6 j oj hj hl') hR
          cases hd2 : oj.dst with
          | none => rw [hd2] at hold; exact hold
          | some d2 =>
            rw [hd2] at hold
            cases hd : ops[i].dst with
            | none => exact hold
            | some d =>
              have hne : d ≠ d2 := by
                simp only [dstsApart, List.all_eq_true, List.mem_range] at hD
                have hj1 : j < ops.size := (Array.getElem?_eq_some_iff.1 hj).1
                have := hD i hi1 j hj1
                rw [ho, hj] at this
                simp [hd, hd2, hij] at this
                exact this
              simpa [Act.put, Array.getElem?_setIfInBounds_ne hne] using hold
    by_cases hic : chain.contains i = true
    · rw [if_pos hic] at hk2
      obtain ⟨q, hq, hqi⟩ := List.getElem_of_mem (by simpa using hic : i ∈ chain)
      have hqd : chain.getD q 0 = i := by rw [List.getD_eq_getElem?_getD, List.getElem?_eq_getElem hq]; exact hqi
      have hqs : q = s := by
        have h10 : ¬ q < s := fun h => by
          have := (hs3 q hq).2 h
          rw [hqd, hif] at this; cases this
        rcases Nat.lt_or_ge s q with h11 | h11
        · have := ((hchain q hq).2 s h11).1
          rw [hqd] at this
          have h12 := (hs3 s (by omega)).1 (hupi _ this)
          omega
        · omega
      subst hqs
      refine wpOp_mono ?_ (hk2 (by rw [List.getElem?_eq_getElem hq, hqi]))
      rintro a'' w'' ⟨v, rfl, ⟨hv, hCs⟩, hR⟩
      refine hstep v w'' hv hR ⟨q + 1, by omega, hCs, fun r hr => ?_⟩
      by_cases hrq : r = q
      · subst hrq
        rw [hqd, Array.getElem?_setIfInBounds_self, if_pos hlt]; simp
      · have hne : i ≠ chain.getD r 0 := fun h => hrq (hinj r q hr hq (by rw [hqd, ← h]))
        rw [Array.getElem?_setIfInBounds_ne hne, hs3 r hr]; omega
    · rw [if_neg hic] at hk2
      refine wpOp_mono ?_ hk2
      rintro a'' w'' ⟨v, rfl, hv, hR⟩
      refine hstep v w'' hv (But.pu hR) ⟨s, hs1, hC s _ _ hs2 hR, fun r hr => ?_⟩
      have hne : i ≠ chain.getD r 0 := fun h => hic (by
        simp only [List.contains_eq_mem, decide_eq_true_eq]
        rw [h, List.getD_eq_getElem?_getD, List.getElem?_eq_getElem hr]; exact List.getElem_mem hr)
      rw [Array.getElem?_setIfInBounds_ne hne, hs3 r hr]
  · intro listed a' w' ⟨h1, h2, h3, h4, h5, hcl, ⟨s, hs1, hs2, hs3⟩, h6⟩ hr
    have hall := ready_nil hE listed h1 hr
    have hse : s = chain.length := by
      rcases Nat.lt_or_ge s chain.length with h | h
      · have := (hs3 s h).1 (hall _ (hchain s h).1); omega
      · omega
    subst hse
    refine hend a' w' h2 h3 h4 h5 hs2 (AllOps.mk' _ _ fun j o hj => ?_)
    rw [Nat.zero_add]
    have hj' : ops[j]? = some o := by simpa using hj
    exact h6 j o hj' (hall j (Array.getElem?_eq_some_iff.1 hj').1)
  · have hch : Pu w { w with drawn := w.drawn + 1 } := ⟨rfl, rfl, rfl, Nat.le_refl _, fun _ _ => rfl⟩
    have hfalse : ∀ (j : Nat), (Array.replicate ops.size false)[j]? ≠ some true := by
      intro j h
      by_cases hj : j < ops.size
      · rw [Array.getElem?_replicate, if_pos hj] at h; cases h
      · rw [Array.getElem?_replicate, if_neg hj] at h; cases h
    exact ⟨by simp, rfl, rfl, fun _ _ => rfl, But.pu hch, fun j hj => absurd hj (hfalse j), ⟨0, Nat.zero_le _, hC 0 _ _ hC0 hch, fun q hq => ⟨fun h => absurd h (hfalse _), fun h => absurd h (Nat.not_lt_zero _)⟩⟩, fun j oj hj hl => absurd hl (hfalse j)⟩
  · rw [Array.toList_replicate, List.count_replicate_self]; exact Nat.le_refl _
theorem op_doneC {g : Nat} {Φ : Value → World → Prop} {C : World → Prop} {i : Nat} {o : Oper} {a' : Act} {w' w'' : World} (ho : ops[i]? = some o) (hw : Region.wanted o (yielded ops a'.tmps) = true)
    (hrun : (execOp a'.eval o).run P w' = .ok .skip w'') (hφ : Φ (if o.dst.isSome then undef else undef) w'') (hC : C w'') (hp : But g w' w'') :
    wpOp P ops Q i (fun a'' w'' => ∃ v, a'' = a'.put o.dst v ∧ (Φ (if o.dst.isSome then v else undef) w'' ∧ C w'') ∧ But g w' w'') a' w' := by
  unfold wpOp
  simp only [ho, hw, if_true]
  refine .inl ?_
  unfold Oper.wp
  rw [hrun]
  exact ⟨undef, rfl, ⟨hφ, hC⟩, hp⟩
end
end Go.Esc
