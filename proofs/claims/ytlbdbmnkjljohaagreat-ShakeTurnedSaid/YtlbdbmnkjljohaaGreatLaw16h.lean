/- Chapter 16: ShakeTurned: the plain laws. -/
import Derived.Test.YtlbdbmnkjljohaaGreatLaw16g
import Derived.Test.YtlbdbmnkjljohaaGreatLaw16f
import Derived.Test.YtlbdbmnkjljohaaGreatRegionT
namespace Go.Proofs.YtlbdbmnkjljohaaGreat
open Go.RowKit Go.Esc
theorem bndU8h {n : Int} (h : (Lit.int .u8 n).wf = true) : 0 ≤ n ∧ n ≤ 255 := by
  simp [Lit.wf, IntKind.min, IntKind.max, IntKind.signed, IntKind.bits] at h
  omega
theorem u8_ofh {n : Int} (h : 0 ≤ n ∧ n ≤ 255) : ∃ c : UInt8, n = (c.toNat : Int) := ⟨UInt8.ofNat n.toNat, by simp; omega⟩
theorem index_of32 (a : Int) : ∃ i : Nat, ∃ r : Int, a.tmod 32 = r ∧ -32 < r ∧ r < 32 ∧ IntKind.i64.wrap (r + 32) = r + 32 ∧ (r + 32).tmod 32 = i ∧ i < 32 := by
  obtain ⟨i, r, h1, h2, h3, h4, h5, h6⟩ := index_ofU a 32 (by decide) (by decide)
  exact ⟨i, r, h1, h2, h3, h4, h5, h6⟩
theorem flatU_get2 : ∀ (zs : List (Bs × Bs)) (i : Nat) (hi : i < zs.length), (flatU zs)[i * 2 + 1]? = some (S (zs[i]).2)
  | x :: r, 0, _ => rfl
  | x :: r, i+1, hi => by
    have := flatU_get2 r i (by simpa using hi)
    rw [show (i + 1) * 2 + 1 = i * 2 + 1 + 1 + 1 by omega]
    simpa [flatU] using this
theorem mkU_mod {zs : List (Bs × Bs)} (h : goodUs zs) {i : Nat} (hi : i < zs.length) (f : UserS → UserS) : modN (mkU zs) (zs[i]).1 f = (mkU zs).set i (f ⟨(zs[i]).1, (zs[i]).2, 0, false, 0⟩) := by
  unfold modN modU
  rw [posN_at h hi]
  simp only
  rw [mkU_get hi]
theorem posN_modN (l : List UserS) (n m : Bs) (f : UserS → UserS) (hf : ∀ u, (f u).name = u.name) : posN (modN l n f) m = posN l m := by
  unfold modN
  split
  · exact modU_name hf m
  · rfl
theorem failS_name (now : Int) (u : UserS) : (failS now u).name = u.name := by unfold failS; split <;> rfl
theorem failS_secret (now : Int) (u : UserS) : (failS now u).secret = u.secret := by unfold failS; split <;> rfl
theorem turn_pos {zs : List (Bs × Bs)} (h : goodUs zs) {i : Nat} (hi : i < zs.length) : posN (modN (mkU zs) (zs[i]).1 (failS 1)) (zs[i]).1 = some i := by
  rw [posN_modN _ _ _ _ (failS_name 1)]; exact posN_at h hi
theorem turn_get {zs : List (Bs × Bs)} (h : goodUs zs) {i : Nat} (hi : i < zs.length) : (modN (mkU zs) (zs[i]).1 (failS 1))[i]? = some ⟨(zs[i]).1, (zs[i]).2, 1, false, 0⟩ := by
  rw [mkU_mod h hi, List.getElem?_set, if_pos rfl, if_pos (by simpa [mkU] using hi)]
  rfl
theorem turn_sec {zs : List (Bs × Bs)} (h : goodUs zs) {i : Nat} (hi : i < zs.length) : secV (modN (mkU zs) (zs[i]).1 (failS 1)) (zs[i]).1 = some (zs[i]).2 := by
  unfold secV; rw [turn_pos h hi]; simp [turn_get h hi]
theorem turn_lock {zs : List (Bs × Bs)} (h : goodUs zs) {i : Nat} (hi : i < zs.length) (now : Int) : lockV (modN (mkU zs) (zs[i]).1 (failS 1)) (zs[i]).1 now = false := by
  unfold lockV; rw [turn_pos h hi]; simp [turn_get h hi, lockedS]
theorem turn_fails {zs : List (Bs × Bs)} (h : goodUs zs) {i : Nat} (hi : i < zs.length) : failsV (modN (mkU zs) (zs[i]).1 (failS 1)) (zs[i]).1 = 1 := by
  unfold failsV; rw [turn_pos h hi]; simp [turn_get h hi]
theorem turn_len {zs : List (Bs × Bs)} (h : goodUs zs) (n : Bs) : ∀ u ∈ modN (mkU zs) n (failS 1), u.secret.length = 32 := modN_len (failS_secret 1) (mkU_len h)
theorem set_ne (q : Bs) (i : Nat) (hi : i < q.length) (y : UInt8) (hy : y ≠ 0) : q.set i (q[i] ^^^ y) ≠ q := fun e => by
  have h1 : (q.set i (q[i] ^^^ y))[i]? = q[i]? := by rw [e]
  rw [List.getElem?_set, if_pos rfl, if_pos hi, List.getElem?_eq_getElem hi] at h1
  have h2 : q[i] ^^^ y = q[i] := by simpa using h1
  have h3 : q[i] ^^^ (q[i] ^^^ y) = q[i] ^^^ q[i] := by rw [h2]
  rw [← UInt8.xor_assoc, UInt8.xor_self, UInt8.zero_xor] at h3
  exact hy h3
end Go.Proofs.YtlbdbmnkjljohaaGreat
