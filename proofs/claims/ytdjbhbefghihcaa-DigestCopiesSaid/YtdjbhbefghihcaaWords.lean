/- Words of 32 bits in a walk. -/
import Derived.Test.YtdjbhbefghihcaaBase
import Derived.Laws.BitsAllLaws
namespace Go.Esc
open Go Go.RowKit
/-- A word as a number (kept whole). -/
def wd (x : BitVec 32) : Int := (x.toNat : Int)
/-- A word as a value. -/
abbrev V (x : BitVec 32) : Value := .int .u32 (wd x)
theorem V_eq (x : BitVec 32) : V x = W x := rfl
theorem wd_nonneg (x : BitVec 32) : 0 ≤ wd x := Int.natCast_nonneg _
theorem wd_lt (x : BitVec 32) : wd x ≤ 4294967295 := by have := x.isLt; simp only [wd]; omega
theorem wd_toNat (x : BitVec 32) : (wd x).toNat = x.toNat := by simp [wd]
theorem wd_add (a b : BitVec 32) : IntKind.u32.wrap (wd a + wd b) = wd (a + b) := by
  rw [IntKind.wrap_u32]; simp only [wd, BitVec.toNat_add]; omega
theorem wd_add' (a b : BitVec 32) : (wd a + wd b) % 4294967296 = wd (a + b) := by rw [← wd_add, IntKind.wrap_u32]
theorem wd_sub (a b : BitVec 32) : IntKind.u32.wrap (wd a - wd b) = wd (a - b) := by
  have := a.isLt; have := b.isLt
  rw [IntKind.wrap_u32]; simp only [wd, BitVec.toNat_sub]; omega
theorem wd_ones (a : BitVec 32) : IntKind.u32.wrap (4294967295 - wd a) = wd (~~~a) := by
  have := a.isLt
  rw [IntKind.wrap_u32]; simp only [wd, BitVec.toNat_not]; omega
theorem wd_ones' (a : BitVec 32) : 4294967295 - wd a = wd (~~~a) := by
  have := a.isLt
  simp only [wd, BitVec.toNat_not]; omega
theorem wd_xor (a b : BitVec 32) : Go.bits .xor .u32 (wd a) (wd b) = wd (a ^^^ b) := by
  have := wd_nonneg a; have := wd_nonneg b; have := wd_lt a; have := wd_lt b
  rw [u32_xor _ _ (by omega) (by omega) (by omega) (by omega), wd_toNat, wd_toNat]; simp [wd]
theorem wd_and (a b : BitVec 32) : Go.bits .and .u32 (wd a) (wd b) = wd (a &&& b) := by
  have := wd_nonneg a; have := wd_nonneg b; have := wd_lt a; have := wd_lt b
  rw [u32_and _ _ (by omega) (by omega) (by omega) (by omega), wd_toNat, wd_toNat]; simp [wd]
theorem wd_or (a b : BitVec 32) : Go.bits .or .u32 (wd a) (wd b) = wd (a ||| b) := by
  have := wd_nonneg a; have := wd_nonneg b; have := wd_lt a; have := wd_lt b
  rw [u32_or _ _ (by omega) (by omega) (by omega) (by omega), wd_toNat, wd_toNat]; simp [wd]
theorem wd_not (a : BitVec 32) : Go.bits .xor .u32 4294967295 (wd a) = wd (~~~a) := by
  have h : (4294967295 : Int) = wd (BitVec.allOnes 32) := by decide
  rw [h, wd_xor, BitVec.allOnes_xor]
theorem wd_shr (a : BitVec 32) (n : Nat) : wd a / 2 ^ n = wd (a >>> n) := by
  simp only [wd, BitVec.toNat_ushiftRight, Nat.shiftRight_eq_div_pow]; simp
theorem wd_shr3 (a : BitVec 32) : wd a / (8 : Int) = wd (a >>> 3) := wd_shr a 3
theorem wd_shr10 (a : BitVec 32) : wd a / (1024 : Int) = wd (a >>> 10) := wd_shr a 10
theorem wd_shl (a : BitVec 32) (n : Nat) : wd a * 2 ^ n % 4294967296 = wd (a <<< n) := by
  simp only [wd, BitVec.toNat_shiftLeft, Nat.shiftLeft_eq]; simp
theorem wrap32_nat (n : Nat) : IntKind.u32.wrap (n : Int) = wd (BitVec.ofNat 32 n) := by
  rw [IntKind.wrap_u32]; simp [wd]
theorem wrap32_nat' (n : Nat) : (n : Int) % 4294967296 = wd (BitVec.ofNat 32 n) := by rw [← wrap32_nat, IntKind.wrap_u32]
theorem wrap64_wd (x : BitVec 32) : IntKind.u64.wrap (wd x) = wd x := by
  have := wd_nonneg x; have := wd_lt x
  rw [IntKind.wrap_u64]; omega
attribute [go_sem] wd_add wd_add' wd_sub wd_ones wd_ones' wd_xor wd_and wd_or wd_not wd_shr wd_shr3 wd_shr10 wd_shl wrap32_nat wrap64_wd
end Go.Esc
