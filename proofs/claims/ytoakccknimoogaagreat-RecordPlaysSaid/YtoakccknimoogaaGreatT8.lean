/- Numbers in bytes, the lowest first: package octet's and the document's. A block of the stream: package stream. -/
import Derived.Test.YtoakccknimoogaaGreatT7
set_option linter.unusedSimpArgs false
set_option linter.unusedVariables false
set_option linter.unusedSimpArgs false
set_option linter.unusedVariables false
namespace Go.Esc
open Go Go.RowKit
theorem putL_last (v k : Nat) : putL v (k+1) = putL v k ++ [UInt8.ofNat (v / 256 ^ k)] := by
 rw [putL_append v k 1]; rfl
theorem set_little (v m k : Nat) (h : k < m) : (cells (putL v k ++ List.replicate (m-k) 0)).set k (.int .u8 ((v / 2^(8*k) % 256 : Nat) : Int)) = cells (putL v (k+1) ++ List.replicate (m-(k+1)) 0) := by
 obtain ⟨j, hj⟩ : ∃ j, m - k = j + 1 := ⟨m - (k+1), by omega⟩
 have : ((v / 2^(8*k) % 256 : Nat) : Int) = ((UInt8.ofNat (v / 256^k)).toNat : Int) := by
  rw [Nat.pow_mul]; simp
 rw [this, cells_set, hj, show m - (k + 1) = j by omega, List.replicate_succ, List.set_append]
 simp [putL_length, putL_last]
theorem leN_drop (l : Bs) (k : Nat) (h : k < l.length) : leN (l.drop k) = l[k].toNat + 256 * leN (l.drop (k+1)) := by
 rw [List.drop_eq_getElem_cons h]; rfl
theorem leN_drop_le (l : Bs) (k : Nat) (h : l.length ≤ 8) (hk : 0 < k) : leN (l.drop k) ≤ 72057594037927935 := by
 have h1 := leN_lt (l.drop k)
 have h2 : 256 ^ (l.drop k).length ≤ 256 ^ 7 := Nat.pow_le_pow_right (by decide) (by simp; omega)
 have h3 : (256 : Nat) ^ 7 = 72057594037927936 := by decide
 omega
end Go.Esc
namespace Go.Proofs.YtoakccknimoogaaGreat
open Go.RowKit Go.Esc
set_option maxHeartbeats 400000 in
theorem putLittle (v : Int) (n : Int) (w : World) (hv : 0 ≤ v) (hn : 1 ≤ n) (hn8 : n ≤ 8) :
 Calls Tryz.prog 117 #[.int .u64 v, .int .i64 n] w fun e w' => e = .returned (S (putL v.toNat n.toNat)) ∧ Pu w w' := by
 obtain ⟨i0, hi, hz0, hz1, hz2⟩ := info_parts infoB
 obtain ⟨m, rfl⟩ := Int.eq_ofNat_of_zero_le (by omega : 0 ≤ n)
 obtain ⟨u, rfl⟩ := Int.eq_ofNat_of_zero_le (by omega : 0 ≤ v)
 have h1 : decide ((m:Int) < 1) = false := by simp; omega
 have h2 : decide ((8:Int) < m) = false := by simp; omega
 go_enter Tryz.func117, Tryz.ntmps117
 go_wp2_with (at_make; refine wpList_make_full _ rfl _ _ 51 rfl w.heap.size 5 i0 (.int .u8 0) 1 Tryz.underlying51 hi hz0 hz1 _ _ _ _ m rfl rfl rfl rfl (by rw [hz2]; omega) (by unfold maxLen; omega) (Nat.le_refl _) ?_; intro w1 hown hgrow)
 go_loopw [17] (fun i wr => ∃ k : Nat, k ≤ m ∧ i = .int .i64 k ∧ wr.ownsRow w.heap.size 5 1 (.slice (some ⟨w.heap.size, 0, none⟩) m m) m (cells (putL u k ++ List.replicate (m-k) 0)) ∧ Below w.heap.size w wr) (fun i _ => m - (intOf i).toNat)
 case atStart => exact ⟨0, Nat.zero_le _, rfl, by rw [madeZ] at hown; simpa [putL] using hown, (Below.refl _ _).grown hgrow (Nat.le_refl _) (by simp)⟩
 case round =>
  obtain ⟨k, hk, rfl, hown, hbel⟩ := hrel
  by_cases hlt : k < m
  · have hl : (putL u k ++ List.replicate (m-k) 0).length = m := by simp [putL_length]; omega
    have hc := hown.cellAt k (by omega)
    rw [cells_get _ _ (by omega)] at hc
    have hf := hown.frozenAt k
    have hst := hown.stored k (.int .u8 ((u / 2^(8*k) % 256 : Nat) : Int))
    rw [set_little u m k hlt] at hst
    go_wp2_with fail
    go_roundw
    case rel => exact ⟨k+1, by omega, by go_num, hst.1, hbel.grown hst.2 hbel.size (by simp)⟩
    case measure => simp [intOf]; omega
  · obtain rfl : k = m := by omega
    simp only [Nat.sub_self, List.replicate_zero, List.append_nil] at hown
    have hcv := own_conv (P := Tryz.prog) 51 9 hown Tryz.underlying51 Tryz.underlying5 Tryz.underlying9
    go_wp2_with fail
    go_ret
    exact ⟨rfl, hbel⟩
set_option maxHeartbeats 800000 in
theorem refPutLittle (v : Int) (n : Int) (w : World) (hv : 0 ≤ v) (hv2 : v < 18446744073709551616) (hn : 1 ≤ n) (hn8 : n ≤ 8) :
 Calls Tryz.prog 83 #[.int .u64 v, .int .i64 n] w fun e w' => e = .returned (S (putL v.toNat n.toNat)) ∧ Pu w w' := by
 obtain ⟨i0, hi, hz0, hz1, hz2⟩ := info_parts infoB
 obtain ⟨m, rfl⟩ := Int.eq_ofNat_of_zero_le (by omega : 0 ≤ n)
 obtain ⟨u, rfl⟩ := Int.eq_ofNat_of_zero_le (by omega : 0 ≤ v)
 have h1 : decide ((m:Int) < 1) = false := by simp; omega
 have h2 : decide ((8:Int) < m) = false := by simp; omega
 go_enter Tryz.func83, Tryz.ntmps83
 go_wp2_with (at_make; refine wpList_make_full _ rfl _ _ 51 rfl w.heap.size 5 i0 (.int .u8 0) 1 Tryz.underlying51 hi hz0 hz1 _ _ _ _ m rfl rfl rfl rfl (by rw [hz2]; omega) (by unfold maxLen; omega) (Nat.le_refl _) ?_; intro w1 hown hgrow)
 go_loopw [0, 6] (fun x i wr => ∃ k : Nat, k ≤ m ∧ x = .int .u64 ((u / 256 ^ k : Nat) : Int) ∧ i = .int .i64 k ∧ wr.ownsRow w.heap.size 5 1 (.slice (some ⟨w.heap.size, 0, none⟩) m m) m (cells (putL u k ++ List.replicate (m-k) 0)) ∧ Below w.heap.size w wr) (fun _ i _ => m - (intOf i).toNat)
 case atStart => exact ⟨0, Nat.zero_le _, by simp, rfl, by rw [madeZ] at hown; simpa [putL] using hown, (Below.refl _ _).grown hgrow (Nat.le_refl _) (by simp)⟩
 case round =>
  obtain ⟨k, hk, rfl, rfl, hown, hbel⟩ := hrel
  by_cases hlt : k < m
  · have hl : (putL u k ++ List.replicate (m-k) 0).length = m := by simp [putL_length]; omega
    have hse := set_little u m k hlt
    have hc := hown.cellAt k (by rw [Nat.mul_one]; exact hlt)
    rw [cells_get _ _ (by omega)] at hc
    have hf := hown.frozenAt k
    have hst := hown.stored k (.int .u8 ((u / 2^(8*k) % 256 : Nat) : Int))
    rw [hse] at hst
    clear hse
    obtain ⟨y, hy⟩ : ∃ y, y = u / 256 ^ k := ⟨_, rfl⟩
    have hyl : y < 18446744073709551616 := by rw [hy]; exact Nat.lt_of_le_of_lt (Nat.div_le_self _ _) (by omega)
    have hp : u / 2 ^ (8*k) = y := by rw [hy, Nat.pow_mul]
    have hn : u / 256 ^ (k+1) = y / 256 := by rw [hy, Nat.pow_succ, Nat.div_div_eq_div_mul]
    rw [hp] at hst
    rw [← hy]
    have ha := and255 y hyl
    have hw : IntKind.u8.wrap ((y % 256 : Nat) : Int) = ((y % 256 : Nat) : Int) := by rw [IntKind.wrap_u8]; omega
    have hq : ((y : Int)).tdiv 256 = ((y / 256 : Nat) : Int) := by rw [Int.tdiv_eq_ediv_of_nonneg (by omega)]; omega
    have hk0 : (0 : Int) ≤ k := by omega
    have hkm : (k : Int) < m := by omega
    obtain ⟨r, hr⟩ : ∃ r, r = y % 256 := ⟨_, rfl⟩
    obtain ⟨q, hq2⟩ : ∃ q, q = y / 256 := ⟨_, rfl⟩
    rw [← hr] at ha hw hst
    rw [← hq2] at hq hn
    have hr256 : r < 256 := by omega
    have hql : IntKind.u64.wrap (q : Int) = q := by rw [IntKind.wrap_u64]; omega
    have HN := Lib.hid hn
    clear hy hp hn hr hq2 hv2 hyl
    go_wp2_with fail
    go_roundw
    case rel => exact ⟨k+1, by omega, by rw [HN.out], by go_num, hst.1, hbel.grown hst.2 hbel.size (by simp)⟩
    case measure => simp [intOf]; omega
  · obtain rfl : k = m := by omega
    simp only [Nat.sub_self, List.replicate_zero, List.append_nil] at hown
    have hcv := own_conv (P := Tryz.prog) 51 9 hown Tryz.underlying51 Tryz.underlying5 Tryz.underlying9
    obtain ⟨y, hy⟩ : ∃ y, y = u / 256 ^ k := ⟨_, rfl⟩
    rw [← hy]
    clear hy
    go_wp2_with fail
    go_ret
    exact ⟨rfl, hbel⟩
set_option maxHeartbeats 800000 in
theorem little (l : List UInt8) (w : World) (hl : l.length ≤ 8) :
 Calls Tryz.prog 142 #[S l] w fun e w' => e = .returned (.int .u64 (leN l : Nat)) ∧ w' = w := by
 by_cases h8 : l.length = 8
 · have hz : IntKind.i64.wrap ((8 : Int) - 1) = 7 := rfl
   go_enter Tryz.func142, Tryz.ntmps142
   go_wp2_with fail
   go_loop [3, 4] (fun v i => (∃ p : Nat, p < l.length ∧ i = .int .i64 (p : Int) ∧ v = .int .u64 (leN (l.drop (p+1)) : Nat)) ∨ (i = .int .i64 (-1) ∧ v = .int .u64 (leN l : Nat))) (fun _ i => (intOf i + 1).toNat)
   case atStart =>
    rcases (by omega : l.length = 0 ∨ 0 < l.length) with h0 | h0
    · right
      obtain rfl : l = [] := List.eq_nil_of_length_eq_zero h0
      first | exact ⟨rfl, rfl⟩ | (exfalso; simp at h8)
    · left
      refine ⟨l.length - 1, by omega, ?_, ?_⟩
      · first | go_num | exact congrArg (Value.int .i64) (by omega)
      · rw [show l.length - 1 + 1 = l.length by omega, List.drop_length]; rfl
   case round =>
    rcases hrel with ⟨p, hp, rfl, rfl⟩ | ⟨rfl, rfl⟩
    · have hs := leN_drop l p hp
      have hb := leN_drop_le l (p+1) hl (by omega)
      obtain ⟨x, hx⟩ : ∃ x, x = leN (l.drop (p+1)) := ⟨_, rfl⟩
      obtain ⟨c, hc⟩ : ∃ c, l[p] = c := ⟨_, rfl⟩
      have hu := c.toNat_lt
      rw [← hx] at hb hs
      rw [hc] at hs
      rw [← hx]
      have q1 : IntKind.u64.wrap ((x : Int) * 256) = x * 256 := by rw [IntKind.wrap_u64]; omega
      have q2 : IntKind.u64.wrap ((x : Int) * 256 + c.toNat) = x * 256 + c.toNat := by rw [IntKind.wrap_u64]; omega
      have q3 : IntKind.u64.wrap (c.toNat : Int) = c.toNat := by rw [IntKind.wrap_u64]; omega
      have q4 : Go.bits .or .u64 ((x : Int) * 256) (c.toNat : Int) = ((x * 256 + c.toNat : Nat) : Int) := bits_or256 _ _ hb hu
      have q5 : (0 : Int) ≤ p := by omega
      have q6 : (p : Int) < l.length := by omega
      have q7 : IntKind.i64.wrap ((p : Int) - 1) = p - 1 := by rw [IntKind.wrap_i64]; omega
      have HS := Lib.hid hs
      clear hx hs
      go_wp2_with fail
      go_round
      case rel =>
       have hs := HS.out
       rcases p with _ | p
       · right
         refine ⟨rfl, ?_⟩
         rw [List.drop_zero] at hs
         rw [hs]; first | rfl | exact congrArg (Value.int .u64) (by omega)
       · left
         refine ⟨p, by omega, ?_, ?_⟩
         · exact congrArg (Value.int .i64) (by omega)
         · rw [hs]; exact congrArg (Value.int .u64) (by omega)
      case measure => first | (simp [intOf]; done) | (simp [intOf]; omega)
    · go_wp2_with fail
      go_ret
      exact ⟨rfl, rfl⟩
 · have h9 : (l.length : Int) < 8 := by omega
   have hz : IntKind.i64.wrap ((l.length : Int) - 1) = l.length - 1 := by rw [IntKind.wrap_i64]; omega
   go_enter Tryz.func142, Tryz.ntmps142
   go_wp2_with fail
   go_loop [3, 4] (fun v i => (∃ p : Nat, p < l.length ∧ i = .int .i64 (p : Int) ∧ v = .int .u64 (leN (l.drop (p+1)) : Nat)) ∨ (i = .int .i64 (-1) ∧ v = .int .u64 (leN l : Nat))) (fun _ i => (intOf i + 1).toNat)
   case atStart =>
    rcases (by omega : l.length = 0 ∨ 0 < l.length) with h0 | h0
    · right
      obtain rfl : l = [] := List.eq_nil_of_length_eq_zero h0
      first | exact ⟨rfl, rfl⟩ | (exfalso; simp at h8)
    · left
      refine ⟨l.length - 1, by omega, ?_, ?_⟩
      · first | go_num | exact congrArg (Value.int .i64) (by omega)
      · rw [show l.length - 1 + 1 = l.length by omega, List.drop_length]; rfl
   case round =>
    rcases hrel with ⟨p, hp, rfl, rfl⟩ | ⟨rfl, rfl⟩
    · have hs := leN_drop l p hp
      have hb := leN_drop_le l (p+1) hl (by omega)
      obtain ⟨x, hx⟩ : ∃ x, x = leN (l.drop (p+1)) := ⟨_, rfl⟩
      obtain ⟨c, hc⟩ : ∃ c, l[p] = c := ⟨_, rfl⟩
      have hu := c.toNat_lt
      rw [← hx] at hb hs
      rw [hc] at hs
      rw [← hx]
      have q1 : IntKind.u64.wrap ((x : Int) * 256) = x * 256 := by rw [IntKind.wrap_u64]; omega
      have q2 : IntKind.u64.wrap ((x : Int) * 256 + c.toNat) = x * 256 + c.toNat := by rw [IntKind.wrap_u64]; omega
      have q3 : IntKind.u64.wrap (c.toNat : Int) = c.toNat := by rw [IntKind.wrap_u64]; omega
      have q4 : Go.bits .or .u64 ((x : Int) * 256) (c.toNat : Int) = ((x * 256 + c.toNat : Nat) : Int) := bits_or256 _ _ hb hu
      have q5 : (0 : Int) ≤ p := by omega
      have q6 : (p : Int) < l.length := by omega
      have q7 : IntKind.i64.wrap ((p : Int) - 1) = p - 1 := by rw [IntKind.wrap_i64]; omega
      have HS := Lib.hid hs
      clear hx hs
      go_wp2_with fail
      go_round
      case rel =>
       have hs := HS.out
       rcases p with _ | p
       · right
         refine ⟨rfl, ?_⟩
         rw [List.drop_zero] at hs
         rw [hs]; first | rfl | exact congrArg (Value.int .u64) (by omega)
       · left
         refine ⟨p, by omega, ?_, ?_⟩
         · exact congrArg (Value.int .i64) (by omega)
         · rw [hs]; exact congrArg (Value.int .u64) (by omega)
      case measure => first | (simp [intOf]; done) | (simp [intOf]; omega)
    · go_wp2_with fail
      go_ret
      exact ⟨rfl, rfl⟩
set_option maxHeartbeats 800000 in
theorem refLittle (l : List UInt8) (w : World) (hl : l.length ≤ 8) :
 Calls Tryz.prog 127 #[S l] w fun e w' => e = .returned (.int .u64 (leN l : Nat)) ∧ w' = w := by
 by_cases h8 : l.length = 8
 · have hz : IntKind.i64.wrap ((8 : Int) - 1) = 7 := rfl
   go_enter Tryz.func127, Tryz.ntmps127
   go_wp2_with fail
   go_loop [3, 4] (fun v i => (∃ p : Nat, p < l.length ∧ i = .int .i64 (p : Int) ∧ v = .int .u64 (leN (l.drop (p+1)) : Nat)) ∨ (i = .int .i64 (-1) ∧ v = .int .u64 (leN l : Nat))) (fun _ i => (intOf i + 1).toNat)
   case atStart =>
    rcases (by omega : l.length = 0 ∨ 0 < l.length) with h0 | h0
    · right
      obtain rfl : l = [] := List.eq_nil_of_length_eq_zero h0
      first | exact ⟨rfl, rfl⟩ | (exfalso; simp at h8)
    · left
      refine ⟨l.length - 1, by omega, ?_, ?_⟩
      · first | go_num | exact congrArg (Value.int .i64) (by omega)
      · rw [show l.length - 1 + 1 = l.length by omega, List.drop_length]; rfl
   case round =>
    rcases hrel with ⟨p, hp, rfl, rfl⟩ | ⟨rfl, rfl⟩
    · have hs := leN_drop l p hp
      have hb := leN_drop_le l (p+1) hl (by omega)
      obtain ⟨x, hx⟩ : ∃ x, x = leN (l.drop (p+1)) := ⟨_, rfl⟩
      obtain ⟨c, hc⟩ : ∃ c, l[p] = c := ⟨_, rfl⟩
      have hu := c.toNat_lt
      rw [← hx] at hb hs
      rw [hc] at hs
      rw [← hx]
      have q1 : IntKind.u64.wrap ((x : Int) * 256) = x * 256 := by rw [IntKind.wrap_u64]; omega
      have q2 : IntKind.u64.wrap ((x : Int) * 256 + c.toNat) = x * 256 + c.toNat := by rw [IntKind.wrap_u64]; omega
      have q3 : IntKind.u64.wrap (c.toNat : Int) = c.toNat := by rw [IntKind.wrap_u64]; omega
      have q4 : Go.bits .or .u64 ((x : Int) * 256) (c.toNat : Int) = ((x * 256 + c.toNat : Nat) : Int) := bits_or256 _ _ hb hu
      have q5 : (0 : Int) ≤ p := by omega
      have q6 : (p : Int) < l.length := by omega
      have q7 : IntKind.i64.wrap ((p : Int) - 1) = p - 1 := by rw [IntKind.wrap_i64]; omega
      have HS := Lib.hid hs
      clear hx hs
      go_wp2_with fail
      go_round
      case rel =>
       have hs := HS.out
       rcases p with _ | p
       · right
         refine ⟨rfl, ?_⟩
         rw [List.drop_zero] at hs
         rw [hs]; first | rfl | exact congrArg (Value.int .u64) (by omega)
       · left
         refine ⟨p, by omega, ?_, ?_⟩
         · exact congrArg (Value.int .i64) (by omega)
         · rw [hs]; exact congrArg (Value.int .u64) (by omega)
      case measure => first | (simp [intOf]; done) | (simp [intOf]; omega)
    · go_wp2_with fail
      go_ret
      exact ⟨rfl, rfl⟩
 · have h9 : (l.length : Int) < 8 := by omega
   have hz : IntKind.i64.wrap ((l.length : Int) - 1) = l.length - 1 := by rw [IntKind.wrap_i64]; omega
   go_enter Tryz.func127, Tryz.ntmps127
   go_wp2_with fail
   go_loop [3, 4] (fun v i => (∃ p : Nat, p < l.length ∧ i = .int .i64 (p : Int) ∧ v = .int .u64 (leN (l.drop (p+1)) : Nat)) ∨ (i = .int .i64 (-1) ∧ v = .int .u64 (leN l : Nat))) (fun _ i => (intOf i + 1).toNat)
   case atStart =>
    rcases (by omega : l.length = 0 ∨ 0 < l.length) with h0 | h0
    · right
      obtain rfl : l = [] := List.eq_nil_of_length_eq_zero h0
      first | exact ⟨rfl, rfl⟩ | (exfalso; simp at h8)
    · left
      refine ⟨l.length - 1, by omega, ?_, ?_⟩
      · first | go_num | exact congrArg (Value.int .i64) (by omega)
      · rw [show l.length - 1 + 1 = l.length by omega, List.drop_length]; rfl
   case round =>
    rcases hrel with ⟨p, hp, rfl, rfl⟩ | ⟨rfl, rfl⟩
    · have hs := leN_drop l p hp
      have hb := leN_drop_le l (p+1) hl (by omega)
      obtain ⟨x, hx⟩ : ∃ x, x = leN (l.drop (p+1)) := ⟨_, rfl⟩
      obtain ⟨c, hc⟩ : ∃ c, l[p] = c := ⟨_, rfl⟩
      have hu := c.toNat_lt
      rw [← hx] at hb hs
      rw [hc] at hs
      rw [← hx]
      have q1 : IntKind.u64.wrap ((x : Int) * 256) = x * 256 := by rw [IntKind.wrap_u64]; omega
      have q2 : IntKind.u64.wrap ((x : Int) * 256 + c.toNat) = x * 256 + c.toNat := by rw [IntKind.wrap_u64]; omega
      have q3 : IntKind.u64.wrap (c.toNat : Int) = c.toNat := by rw [IntKind.wrap_u64]; omega
      have q4 : Go.bits .or .u64 ((x : Int) * 256) (c.toNat : Int) = ((x * 256 + c.toNat : Nat) : Int) := bits_or256 _ _ hb hu
      have q5 : (0 : Int) ≤ p := by omega
      have q6 : (p : Int) < l.length := by omega
      have q7 : IntKind.i64.wrap ((p : Int) - 1) = p - 1 := by rw [IntKind.wrap_i64]; omega
      have HS := Lib.hid hs
      clear hx hs
      go_wp2_with fail
      go_round
      case rel =>
       have hs := HS.out
       rcases p with _ | p
       · right
         refine ⟨rfl, ?_⟩
         rw [List.drop_zero] at hs
         rw [hs]; first | rfl | exact congrArg (Value.int .u64) (by omega)
       · left
         refine ⟨p, by omega, ?_, ?_⟩
         · exact congrArg (Value.int .i64) (by omega)
         · rw [hs]; exact congrArg (Value.int .u64) (by omega)
      case measure => first | (simp [intOf]; done) | (simp [intOf]; omega)
    · go_wp2_with fail
      go_ret
      exact ⟨rfl, rfl⟩
end Go.Proofs.YtoakccknimoogaaGreat
set_option linter.unusedSimpArgs false
set_option linter.unusedVariables false
namespace Go.Proofs.YtoakccknimoogaaGreat
open Go.RowKit Go.Esc
def pcells (p : P4) : List Value := [.int .i64 (p.a : Int), .int .i64 (p.b : Int), .int .i64 (p.c : Int), .int .i64 (p.d : Int)]
def allPlaces : List Value := placeL.flatMap pcells
theorem placeIx (L : List Value) (hL : L = allPlaces) (k : Nat) (h : k < 8) (w : World) : (Instr.index 202 (.agg L.toArray) (.int .i64 (k : Int))).run Tryz.prog w = .ok (.agg (pcells (place k)).toArray) w := by
 subst hL
 rcases (by omega : k = 0 ∨ k = 1 ∨ k = 2 ∨ k = 3 ∨ k = 4 ∨ k = 5 ∨ k = 6 ∨ k = 7) with rfl | rfl | rfl | rfl | rfl | rfl | rfl | rfl <;> kernel_rfl
theorem place_lt (k : Nat) (h : k < 8) : (place k).a < 16 ∧ (place k).b < 16 ∧ (place k).c < 16 ∧ (place k).d < 16 := by
 match k, h with
 | 0, _ => decide
 | 1, _ => decide
 | 2, _ => decide
 | 3, _ => decide
 | 4, _ => decide
 | 5, _ => decide
 | 6, _ => decide
 | 7, _ => decide
theorem Row.p4 {w : World} {g : Nat} {e : TypeId} {p : P4} (h : Row w g e (pcells p)) : w.cell? ⟨g, 0, none⟩ = some (.int .i64 (p.a : Int)) ∧ w.cell? ⟨g, 1, none⟩ = some (.int .i64 (p.b : Int)) ∧ w.cell? ⟨g, 2, none⟩ = some (.int .i64 (p.c : Int)) ∧ w.cell? ⟨g, 3, none⟩ = some (.int .i64 (p.d : Int)) :=
 ⟨h.cell 0 (by simp [pcells]), h.cell 1 (by simp [pcells]), h.cell 2 (by simp [pcells]), h.cell 3 (by simp [pcells])⟩
set_option maxRecDepth 100000 in
set_option maxHeartbeats 1600000 in
theorem places (L : List Value) (hL : L = allPlaces) (w : World) :
 Calls Tryz.prog 143 #[] w fun e w' => e = .returned (.agg L.toArray) ∧ Pu w w' := by
 have hi : (Tryz.prog.info? 202).map (·.size) = some 32 := by kernel_rfl
 have hl : L.length = 32 := by rw [hL]; rfl
 have hone : L.all (·.oneCell') = true := by rw [hL]; kernel_rfl
 have HL := Lib.hid hL
 clear hL
 go_enter Tryz.func143, Tryz.ntmps143
 go_wp2_with (first
  | (refine wpList_built rfl 202 _ rfl L (by rw [HL.out]; kernel_rfl) ?_)
  | (refine wpList_store_part rfl 202 (.tmp 0) (.tmp 9) rfl w.heap.size 0 L (by rfl) (by rfl) (Row.new _ _ _) (by rw [hl]; exact hi) (by rw [hl]; decide) hone ?_; intro w1 hr1 hch))
 rw [splice_all (by rw [hl]; rfl)] at hr1
 have hrl := hr1.loadAll (P := Tryz.prog) 202 Tryz.underlying202 rfl (by rw [hl]; exact hi)
 refine bodyPost_ret (results_cell_eq rfl _ _ rfl hrl) rfl ⟨rfl, hch.below ((Pu.refl w).alloc _) (Nat.le_refl _)⟩
/-- the first t of 16 words -/
def wordsTo (s : List Wd) (t : Nat) : List Wd := s.take t ++ List.replicate (16 - t) 0
theorem wordsTo_length (s : List Wd) (hs : s.length = 16) (t : Nat) (h : t ≤ 16) : (wordsTo s t).length = 16 := by simp [wordsTo, hs]; omega
theorem wordsTo_set (s : List Wd) (hs : s.length = 16) (t : Nat) (h : t < 16) : (wordsTo s t).set t (s.getD t 0) = wordsTo s (t+1) := by
 obtain ⟨j, hj⟩ : ∃ j, 16 - t = j + 1 := ⟨15 - t, by omega⟩
 have hg : s.getD t 0 = s[t]'(by omega) := by rw [List.getD_eq_getElem?_getD, List.getElem?_eq_getElem (by omega)]; rfl
 rw [wordsTo, wordsTo, hj, show 16 - (t + 1) = j by omega, List.replicate_succ, List.set_append, List.take_succ_eq_append_getElem (by omega)]
 have h0 : min t s.length = t := by omega
 rw [List.length_take, h0, if_neg (by omega), Nat.sub_self, List.set_cons_zero, hg, List.append_assoc]; rfl
theorem wordsTo_all (s : List Wd) (hs : s.length = 16) : wordsTo s 16 = s := by simp [wordsTo, ← hs]
theorem initC_get (key : Bs) (ctr : Nat) (nonce : Bs) (t : Nat) (h : t < 16) : (initC key ctr nonce).getD t 0 = wordL (expandC ++ (key ++ (putL ctr 4 ++ nonce))) t := by
 simp [initC, List.getD_eq_getElem?_getD, h]
/-- a quarter round by parts -/
def qpart (x : List Wd) (p : P4) (q : Q4) : Nat → List Wd
 | 0 => x
 | 1 => x.set p.a q.a
 | 2 => (x.set p.a q.a).set p.b q.b
 | 3 => ((x.set p.a q.a).set p.b q.b).set p.c q.c
 | _ => (((x.set p.a q.a).set p.b q.b).set p.c q.c).set p.d q.d
theorem qpart_length (x : List Wd) (p : P4) (q : Q4) (s : Nat) : (qpart x p q s).length = x.length := by
 unfold qpart; split <;> simp
theorem outC_le (x s : List Wd) (i : Nat) (h : i ≤ 16) : (outC x s i).length ≤ 64 := by rw [outC_length]; omega
set_option maxRecDepth 100000 in
set_option maxHeartbeats 3200000 in
theorem block (key nonce : Bs) (ctr : Nat) (hk : key.length = 32) (hn : nonce.length = 12) (hc : ctr < 4294967296) (w : World) :
 Calls Tryz.prog 114 #[S key, .int .u32 (ctr : Int), S nonce] w fun e w' => e = .returned (S (blockL key ctr nonce)) ∧ Pu w w' := by
 have hi16 : (Tryz.prog.info? 200).map (·.size) = some 16 := by kernel_rfl
 have hi4 : (Tryz.prog.info? 201).map (·.size) = some 4 := by kernel_rfl
 obtain ⟨all, hall⟩ : ∃ l, l = expandC ++ (key ++ (putL ctr 4 ++ nonce)) := ⟨_, rfl⟩
 have hcat : expandC ++ (key ++ (putL ctr 4 ++ nonce)) = all := hall.symm
 have hal : all.length = 64 := by rw [hall]; simp [expandC, hk, hn, putL_length]
 obtain ⟨s, hs⟩ : ∃ s, s = initC key ctr nonce := ⟨_, rfl⟩
 have hsl : s.length = 16 := by rw [hs, initC_length]
 have hsg : ∀ t, t < 16 → s.getD t 0 = wordL all t := by intro t ht; rw [hs, initC_get _ _ _ _ ht, hall]
 obtain ⟨L, hL⟩ : ∃ l, l = allPlaces := ⟨_, rfl⟩
 have hfin : blockL key ctr nonce = outC (qrun s 80) s 16 := by rw [hs]; rfl
 have hP := fun w => putLittle (ctr : Int) 4 w (by omega) (by omega) (by omega)
 rw [show ((ctr : Int)).toNat = ctr from rfl, show ((4 : Int)).toNat = 4 from rfl] at hP
 obtain ⟨pc, hpc⟩ : ∃ l, l = putL ctr 4 := ⟨_, rfl⟩
 have hpcl : pc.length = 4 := by rw [hpc, putL_length]
 rw [← hpc] at hP hcat
 have hw64 : IntKind.u64.wrap (ctr : Int) = ctr := by rw [IntKind.wrap_u64]; omega
 have kx : (ByteArray.mk #[101, 120, 112, 97, 110, 100, 32, 51, 50, 45, 98, 121, 116, 101, 32, 107]) = bs expandC := rfl
 have kel : expandC.length = 16 := rfl
 have z1 : ¬ (9223372036854775807 < expandC.length + key.length) := by omega
 have z2 : ¬ (9223372036854775807 < (expandC ++ key).length + pc.length) := by simp; omega
 have z3 : ¬ (9223372036854775807 < ((expandC ++ key) ++ pc).length + nonce.length) := by simp; omega
 have HP := Lib.hid hP
 have HSG := Lib.hid hsg
 have HF := Lib.hid hfin
 have HLL := Lib.hid hL
 clear hall hs hP hsg hfin hL hpc
 go_enter Tryz.func114, Tryz.ntmps114
 go_wp2_with (go_at_call 117; refine (HP.out _).mono ?_; rintro e w1 ⟨rfl, hp1⟩)
 have hg1 := hp1.size
 go_loopw [24] (fun i wr => ∃ t : Nat, t ≤ 16 ∧ i = .int .i64 t ∧ Row wr w1.heap.size 200 (vs (wordsTo s t)) ∧ Row wr (w1.heap.size + 1) 200 (vs (List.replicate 16 0)) ∧ Below w.heap.size w wr) (fun i _ => 16 - (intOf i).toNat)
 case atStart => exact ⟨0, by omega, rfl, (Row.newAt w1 w1.heap.size _ _ rfl rfl).alloc _, Row.newAt _ _ _ _ (by simp) rfl, (hp1.alloc _).alloc _⟩
 case round =>
  clear hp1
  obtain ⟨t, ht, rfl, hrf, hrx, hbel⟩ := hrel
  by_cases hlt : t < 16
  · have hset := wordsTo_set s hsl t hlt
    have hwl := wordsTo_length s hsl t ht
    rw [HSG.out t hlt] at hset
    have hli := fun w => little ((all.take (4 * t + 4)).drop (4 * t)) w (by simp; omega)
    have hwd : BitVec.ofNat 32 (leN ((all.take (4 * t + 4)).drop (4 * t))) = wordL all t := by rw [wordL, word_of]
    obtain ⟨y, hy⟩ : ∃ y, y = leN ((all.take (4 * t + 4)).drop (4 * t)) := ⟨_, rfl⟩
    rw [← hy] at hli hwd
    have HB := Lib.hid hli
    have HWD := Lib.hid hwd
    have hs1 : (4 : Int) * t ≤ 4 * t + 4 := by omega
    have hs2 : (4 : Int) * t + 4 ≤ all.length := by omega
    have hs0 : (0 : Int) ≤ 4 * t := by omega
    have hs5 : (0 : Int) ≤ 4 * t + 4 := by omega
    have hs6 : (0 : Int) ≤ t := by omega
    have hs3 : ((4 : Int) * t).toNat = 4 * t := by omega
    have hs4 : ((4 : Int) * t + 4).toNat = 4 * t + 4 := by omega
    have HL := Lib.hid hal
    have HN := Lib.hid hset
    clear hli hwd hal hset hy
    go_wp2_with (go_at_call 142; refine (HB.out _).mono ?_; rintro e w2 ⟨rfl, rfl⟩; have hc := Row.word hrf t (by omega); have hf := hrf.frozen t (by rw [vs_length]; omega))
    go_roundw
    case rel =>
     refine ⟨t + 1, by omega, by go_num, ?_, hrx.setOther _ _ (by simp), hbel.setCell hg1 _⟩
     have := hrf.set t (V (wordL all t))
     rw [vs_set, HN.out] at this
     rw [HWD.out]
     exact this
    case measure => simp [intOf]; omega
  · obtain rfl : t = 16 := by omega
    rw [wordsTo_all s hsl] at hrf
    obtain ⟨sv, hsv⟩ : ∃ l, l = vs s := ⟨_, rfl⟩
    have hsv16 : sv.length = 16 := by rw [hsv, vs_length, hsl]
    have hsone : sv.all (·.oneCell') = true := by rw [hsv]; simp [vs, Value.oneCell']
    have htk : ((sv.drop 0).take 16) = sv := by rw [List.drop_zero, List.take_of_length_le (by omega)]
    rw [← hsv] at hrf
    have HSV := Lib.hid hsv
    clear hsv
    go_wp2_with (first
     | (refine wpList_load_part rfl 200 (.tmp 8) rfl w1.heap.size 0 16 (by rfl) hrf Tryz.underlying200 rfl hi16 (by omega) ?_; rw [htk])
     | (refine wpList_store_part rfl 200 (.tmp 9) (.tmp 39) rfl (w1.heap.size+1) 0 sv (by rfl) (by rfl) hrx (by rw [hsv16]; exact hi16) (by rw [hsv16]; decide) hsone ?_; intro w2 hrx2 hch))
    rw [splice_all (by rw [hsv16]; rfl), HSV.out] at hrx2
    replace hrf := hch.row hrf (by omega)
    replace hbel := hch.below hbel (by omega)
    clear hch hrx
    clear ht
    go_loopw [40] (fun i wq => ∃ n : Nat, n ≤ 10 ∧ i = .int .i64 n ∧ Row wq w1.heap.size 200 sv ∧ Row wq (w1.heap.size + 1) 200 (vs (qrun s (8 * n))) ∧ Below w.heap.size w wq) (fun i _ => 10 - (intOf i).toNat)
    case atStart => exact ⟨0, by omega, rfl, hrf, hrx2, hbel⟩
    case round =>
     clear hrf hrx2 hbel
     obtain ⟨n, hn10, rfl, hrf, hrx, hbel⟩ := hrel
     by_cases hlt : n < 10
     · go_wp2_with (go_at_call 143; refine (places L HLL.out _).mono ?_; rintro e w3 ⟨rfl, hp3⟩; replace hrf := hrf.pu hp3; replace hrx := hrx.pu hp3; replace hbel := hbel.trans (Below.mono hp3 hbel.size))
       clear hp3
       go_loopw [43] (fun i wz => ∃ k : Nat, k ≤ 8 ∧ i = .int .i64 k ∧ Row wz w1.heap.size 200 sv ∧ Row wz (w1.heap.size + 1) 200 (vs (qrun s (8 * n + k))) ∧ Below w.heap.size w wz) (fun i _ => 8 - (intOf i).toNat)
       case atStart => exact ⟨0, by omega, rfl, hrf, hrx, hbel⟩
       case round =>
        clear hrf hrx hbel
        obtain ⟨k, hk8, rfl, hrf, hrx, hbel⟩ := hrel
        by_cases hkt : k < 8
        · have hix := placeIx L HLL.out k hkt
          obtain ⟨p, hp⟩ : ∃ p, p = place k := ⟨_, rfl⟩
          obtain ⟨hpa, hpb, hpc, hpd⟩ := place_lt k hkt
          have hmod : (8 * n + k) % 8 = k := by omega
          have hq : qrun s (8 * n + k + 1) = qAt (qrun s (8 * n + k)) p := by
           show qAt (qrun s (8 * n + k)) (place ((8 * n + k) % 8)) = _
           rw [hmod, hp]
          have hxl := qrun_length s (8 * n + k)
          rw [hsl] at hxl
          obtain ⟨x, hx⟩ : ∃ x, x = qrun s (8 * n + k) := ⟨_, rfl⟩
          rw [← hp] at hix hpa hpb hpc hpd
          rw [← hx] at hq hrx hxl
          obtain ⟨pl, hpl⟩ : ∃ l, l = pcells p := ⟨_, rfl⟩
          have hpl4 : pl.length = 4 := by rw [hpl]; rfl
          have hplone : pl.all (·.oneCell') = true := by rw [hpl]; rfl
          rw [← hpl] at hix
          have HPL := Lib.hid hpl
          have HQ := Lib.hid hq
          have HX := Lib.hid hx
          have hk0 : (0 : Int) ≤ k := by omega
          have hk1 : (k : Int) < 8 := by omega
          clear hpl hq hx hp hmod
          go_wp2_with (refine wpList_store_part rfl 201 (.tmp 12) (.tmp 45) rfl wr.heap.size 0 pl (by rfl) (by rfl) (Row.newAt _ _ _ _ rfl rfl) (by rw [hpl4]; exact hi4) (by rw [hpl4]; decide) hplone ?_; intro w4 hrp hch)
          have hxlt := hrx.lt
          have hplt := hrp.lt
          rw [splice_all (by rw [hpl4]; rfl), HPL.out] at hrp
          replace hrf := hch.row (hrf.alloc _) (by have := hrf.lt; omega)
          replace hrx := hch.row (hrx.alloc _) (by omega)
          replace hbel := hch.below (hbel.alloc hbel.size _) hbel.size
          obtain ⟨G, hG⟩ : ∃ G, G = wr.heap.size := ⟨_, rfl⟩
          rw [← hG] at hrp hplt hxlt ⊢
          obtain ⟨xa, hxa⟩ : ∃ v, v = x.getD p.a 0 := ⟨_, rfl⟩
          obtain ⟨xb, hxb⟩ : ∃ v, v = x.getD p.b 0 := ⟨_, rfl⟩
          obtain ⟨xc, hxc⟩ : ∃ v, v = x.getD p.c 0 := ⟨_, rfl⟩
          obtain ⟨xd, hxd⟩ : ∃ v, v = x.getD p.d 0 := ⟨_, rfl⟩
          obtain ⟨q, hq⟩ : ∃ q, q = quarter xa xb xc xd := ⟨_, rfl⟩
          have hqu := fun w => quart xa xb xc xd w
          rw [← hq] at hqu
          have hqf : qpart x p q 4 = qrun s (8 * n + k + 1) := by rw [HQ.out, qAt, ← hxa, ← hxb, ← hxc, ← hxd, ← hq]; rfl
          have HXA := Lib.hid hxa
          have HXB := Lib.hid hxb
          have HXC := Lib.hid hxc
          have HXD := Lib.hid hxd
          have HQU := Lib.hid hqu
          have HQF := Lib.hid hqf
          have hc1 : ∀ args w, (callFunc 144 args).run Tryz.prog w = .ok (.enter 144 args) w := fun args w => run_callFunc_body Tryz.func144 (by kernel_rfl) (by kernel_rfl) args w
          have ia0 : (0 : Int) ≤ p.a := by omega
          have ia1 : (p.a : Int) < 16 := by omega
          have ib0 : (0 : Int) ≤ p.b := by omega
          have ib1 : (p.b : Int) < 16 := by omega
          have ic0 : (0 : Int) ≤ p.c := by omega
          have ic1 : (p.c : Int) < 16 := by omega
          have id0 : (0 : Int) ≤ p.d := by omega
          have id1 : (p.d : Int) < 16 := by omega
          clear hxa hxb hxc hxd hq hqu hqf hG hch
          have hne : G ≠ w1.heap.size + 1 := by omega
          apply region_chain (g := w1.heap.size + 1) (chain := [31, 33, 35, 37]) (C := (fun n w' => Row w' (w1.heap.size + 1) 200 (vs (qpart x p q n)))) (Φs := (Is _ :: Is _ :: Is _ :: Is _ :: Is _ :: Is _ :: Is _ :: Is _ :: Is _ :: Is _ :: Is _ :: Is _ :: Is _ :: Is _ :: Is _ :: Is _ :: Is _ :: Is _ :: Is _ :: Is _ :: Is _ :: Is _ :: Is _ :: Is _ :: Is _ :: Is _ :: Is _ :: Is _ :: Is _ :: Is _ :: Is _ :: Is _ :: Is _ :: Is _ :: Is _ :: Is _ :: Is _ :: Is _ :: [])) (hm := by kernel_rfl) (hE := by kernel_rfl) (hD := by kernel_rfl) (hup := by kernel_rfl) (hch := by kernel_rfl) (hsize := by kernel_rfl)
          case hC =>
           intro s a b h hp
           exact Row.pu h hp
          case hC0 =>
           exact hrx
          case hop =>
           refine ⟨?_, ?_, ?_, ?_, ?_, ?_, ?_, ?_, ?_, ?_, ?_, ?_, ?_, ?_, ?_, ?_, ?_, ?_, ?_, ?_, ?_, ?_, ?_, ?_, ?_, ?_, ?_, ?_, ?_, ?_, ?_, ?_, ?_, ?_, ?_, ?_, ?_, ?_, trivial⟩
           · intro a' w' s hs hp hC hlo hhi he
             rw [if_neg (by decide)]
             clear hlo hhi
             have e12 := hs 12 (by kernel_rfl)
             try simp [Is, Region.binds] at he
             exact op_v
           · intro a' w' s hs hp hC hlo hhi he
             rw [if_neg (by decide)]
             clear hlo hhi
             try simp [Is, Region.binds] at he
             obtain ⟨c0, c1, c2, c3⟩ := Row.p4 (hp.row hrp hne); exact op_val rfl (wanted_none rfl) (by first | (go_simp; done) | (go_simp; rfl)) rfl (Pu.refl _)
           · intro a' w' s hs hp hC hlo hhi he
             rw [if_neg (by decide)]
             clear hlo hhi
             have e12 := hs 12 (by kernel_rfl)
             try simp [Is, Region.binds] at he
             exact op_v
           · intro a' w' s hs hp hC hlo hhi he
             rw [if_neg (by decide)]
             clear hlo hhi
             try simp [Is, Region.binds] at he
             obtain ⟨c0, c1, c2, c3⟩ := Row.p4 (hp.row hrp hne); exact op_val rfl (wanted_none rfl) (by first | (go_simp; done) | (go_simp; rfl)) rfl (Pu.refl _)
           · intro a' w' s hs hp hC hlo hhi he
             rw [if_neg (by decide)]
             clear hlo hhi
             have e12 := hs 12 (by kernel_rfl)
             try simp [Is, Region.binds] at he
             exact op_v
           · intro a' w' s hs hp hC hlo hhi he
             rw [if_neg (by decide)]
             clear hlo hhi
             try simp [Is, Region.binds] at he
             obtain ⟨c0, c1, c2, c3⟩ := Row.p4 (hp.row hrp hne); exact op_val rfl (wanted_none rfl) (by first | (go_simp; done) | (go_simp; rfl)) rfl (Pu.refl _)
           · intro a' w' s hs hp hC hlo hhi he
             rw [if_neg (by decide)]
             clear hlo hhi
             have e12 := hs 12 (by kernel_rfl)
             try simp [Is, Region.binds] at he
             exact op_v
           · intro a' w' s hs hp hC hlo hhi he
             rw [if_neg (by decide)]
             clear hlo hhi
             try simp [Is, Region.binds] at he
             obtain ⟨c0, c1, c2, c3⟩ := Row.p4 (hp.row hrp hne); exact op_val rfl (wanted_none rfl) (by first | (go_simp; done) | (go_simp; rfl)) rfl (Pu.refl _)
           · intro a' w' s hs hp hC hlo hhi he
             rw [if_neg (by decide)]
             clear hlo hhi
             have e12 := hs 12 (by kernel_rfl)
             try simp [Is, Region.binds] at he
             exact op_v
           · intro a' w' s hs hp hC hlo hhi he
             rw [if_neg (by decide)]
             clear hlo hhi
             try simp [Is, Region.binds] at he
             obtain ⟨c0, c1, c2, c3⟩ := Row.p4 (hp.row hrp hne); exact op_val rfl (wanted_none rfl) (by first | (go_simp; done) | (go_simp; rfl)) rfl (Pu.refl _)
           · intro a' w' s hs hp hC hlo hhi he
             rw [if_neg (by decide)]
             clear hlo hhi
             have e9 := hs 9 (by kernel_rfl)
             try simp [Is, Region.binds] at he
             exact op_v
           · intro a' w' s hs hp hC hlo hhi he
             rw [if_neg (by decide)]
             have hs0 : s = 0 := Nat.le_zero.1 (Nat.le_trans hhi (Nat.le_of_eq (by kernel_rfl)))
             subst hs0
             clear hlo hhi
             try simp [Is, Region.binds] at he
             have c := Row.word (l := x) hC p.a (by omega); rw [← HXA.out] at c; exact op_val rfl (wanted_none rfl) (by first | (go_simp; done) | (go_simp; rfl)) rfl (Pu.refl _)
           · intro a' w' s hs hp hC hlo hhi he
             rw [if_neg (by decide)]
             clear hlo hhi
             have e12 := hs 12 (by kernel_rfl)
             try simp [Is, Region.binds] at he
             exact op_v
           · intro a' w' s hs hp hC hlo hhi he
             rw [if_neg (by decide)]
             clear hlo hhi
             try simp [Is, Region.binds] at he
             obtain ⟨c0, c1, c2, c3⟩ := Row.p4 (hp.row hrp hne); exact op_val rfl (wanted_none rfl) (by first | (go_simp; done) | (go_simp; rfl)) rfl (Pu.refl _)
           · intro a' w' s hs hp hC hlo hhi he
             rw [if_neg (by decide)]
             clear hlo hhi
             have e9 := hs 9 (by kernel_rfl)
             try simp [Is, Region.binds] at he
             exact op_v
           · intro a' w' s hs hp hC hlo hhi he
             rw [if_neg (by decide)]
             have hs0 : s = 0 := Nat.le_zero.1 (Nat.le_trans hhi (Nat.le_of_eq (by kernel_rfl)))
             subst hs0
             clear hlo hhi
             try simp [Is, Region.binds] at he
             have c := Row.word (l := x) hC p.b (by omega); rw [← HXB.out] at c; exact op_val rfl (wanted_none rfl) (by first | (go_simp; done) | (go_simp; rfl)) rfl (Pu.refl _)
           · intro a' w' s hs hp hC hlo hhi he
             rw [if_neg (by decide)]
             clear hlo hhi
             have e12 := hs 12 (by kernel_rfl)
             try simp [Is, Region.binds] at he
             exact op_v
           · intro a' w' s hs hp hC hlo hhi he
             rw [if_neg (by decide)]
             clear hlo hhi
             try simp [Is, Region.binds] at he
             obtain ⟨c0, c1, c2, c3⟩ := Row.p4 (hp.row hrp hne); exact op_val rfl (wanted_none rfl) (by first | (go_simp; done) | (go_simp; rfl)) rfl (Pu.refl _)
           · intro a' w' s hs hp hC hlo hhi he
             rw [if_neg (by decide)]
             clear hlo hhi
             have e9 := hs 9 (by kernel_rfl)
             try simp [Is, Region.binds] at he
             exact op_v
           · intro a' w' s hs hp hC hlo hhi he
             rw [if_neg (by decide)]
             have hs0 : s = 0 := Nat.le_zero.1 (Nat.le_trans hhi (Nat.le_of_eq (by kernel_rfl)))
             subst hs0
             clear hlo hhi
             try simp [Is, Region.binds] at he
             have c := Row.word (l := x) hC p.c (by omega); rw [← HXC.out] at c; exact op_val rfl (wanted_none rfl) (by first | (go_simp; done) | (go_simp; rfl)) rfl (Pu.refl _)
           · intro a' w' s hs hp hC hlo hhi he
             rw [if_neg (by decide)]
             clear hlo hhi
             have e12 := hs 12 (by kernel_rfl)
             try simp [Is, Region.binds] at he
             exact op_v
           · intro a' w' s hs hp hC hlo hhi he
             rw [if_neg (by decide)]
             clear hlo hhi
             try simp [Is, Region.binds] at he
             obtain ⟨c0, c1, c2, c3⟩ := Row.p4 (hp.row hrp hne); exact op_val rfl (wanted_none rfl) (by first | (go_simp; done) | (go_simp; rfl)) rfl (Pu.refl _)
           · intro a' w' s hs hp hC hlo hhi he
             rw [if_neg (by decide)]
             clear hlo hhi
             have e9 := hs 9 (by kernel_rfl)
             try simp [Is, Region.binds] at he
             exact op_v
           · intro a' w' s hs hp hC hlo hhi he
             rw [if_neg (by decide)]
             have hs0 : s = 0 := Nat.le_zero.1 (Nat.le_trans hhi (Nat.le_of_eq (by kernel_rfl)))
             subst hs0
             clear hlo hhi
             try simp [Is, Region.binds] at he
             have c := Row.word (l := x) hC p.d (by omega); rw [← HXD.out] at c; exact op_val rfl (wanted_none rfl) (by first | (go_simp; done) | (go_simp; rfl)) rfl (Pu.refl _)
           · intro a' w' s hs hp hC hlo hhi he
             rw [if_neg (by decide)]
             clear hlo hhi
             try simp [Is, Region.binds] at he
             exact op_callV (HQU.out _) rfl (wanted_none rfl) (by first | (go_simp; done) | (go_simp; rfl)) rfl
           · intro a' w' s hs hp hC hlo hhi he
             rw [if_neg (by decide)]
             clear hlo hhi
             try simp [Is, Region.binds] at he
             exact op_v
           · intro a' w' s hs hp hC hlo hhi he
             rw [if_neg (by decide)]
             clear hlo hhi
             try simp [Is, Region.binds] at he
             exact op_v
           · intro a' w' s hs hp hC hlo hhi he
             rw [if_neg (by decide)]
             clear hlo hhi
             try simp [Is, Region.binds] at he
             exact op_v
           · intro a' w' s hs hp hC hlo hhi he
             rw [if_neg (by decide)]
             clear hlo hhi
             try simp [Is, Region.binds] at he
             exact op_v
           · intro a' w' s hs hp hC hlo hhi he
             rw [if_neg (by decide)]
             clear hlo hhi
             try simp [Is, Region.binds] at he
             exact op_v
           · intro a' w' s hs hp hC hlo hhi he
             rw [if_neg (by decide)]
             clear hlo hhi
             have e9 := hs 9 (by kernel_rfl)
             try simp [Is, Region.binds] at he
             exact op_v
           · intro a' w' s hs hp hC hlo hhi he
             rw [if_pos (by decide)]; intro hsc; clear hsc
             have hs0 : s = 0 := Nat.le_antisymm (Nat.le_trans hhi (Nat.le_of_eq (by kernel_rfl))) (Nat.le_trans (Nat.le_of_eq (by kernel_rfl)) hlo)
             subst hs0
             clear hlo hhi
             try simp [Is, Region.binds] at he
             have hc := Row.word (l := qpart x p q 0) hC p.a (by rw [qpart_length]; omega); have hf := hC.frozen p.a (by rw [vs_length, qpart_length]; omega); refine op_doneC rfl (wanted_none rfl) (by first | (go_simp; done) | (go_simp; rfl)) rfl ?_ (But.set _ _ _); have hst := hC.set p.a (V q.a); rw [vs_set] at hst; exact hst
           · intro a' w' s hs hp hC hlo hhi he
             rw [if_neg (by decide)]
             clear hlo hhi
             have e9 := hs 9 (by kernel_rfl)
             try simp [Is, Region.binds] at he
             exact op_v
           · intro a' w' s hs hp hC hlo hhi he
             rw [if_pos (by decide)]; intro hsc; clear hsc
             have hs0 : s = 1 := Nat.le_antisymm (Nat.le_trans hhi (Nat.le_of_eq (by kernel_rfl))) (Nat.le_trans (Nat.le_of_eq (by kernel_rfl)) hlo)
             subst hs0
             clear hlo hhi
             try simp [Is, Region.binds] at he
             have hc := Row.word (l := qpart x p q 1) hC p.b (by rw [qpart_length]; omega); have hf := hC.frozen p.b (by rw [vs_length, qpart_length]; omega); refine op_doneC rfl (wanted_none rfl) (by first | (go_simp; done) | (go_simp; rfl)) rfl ?_ (But.set _ _ _); have hst := hC.set p.b (V q.b); rw [vs_set] at hst; exact hst
           · intro a' w' s hs hp hC hlo hhi he
             rw [if_neg (by decide)]
             clear hlo hhi
             have e9 := hs 9 (by kernel_rfl)
             try simp [Is, Region.binds] at he
             exact op_v
           · intro a' w' s hs hp hC hlo hhi he
             rw [if_pos (by decide)]; intro hsc; clear hsc
             have hs0 : s = 2 := Nat.le_antisymm (Nat.le_trans hhi (Nat.le_of_eq (by kernel_rfl))) (Nat.le_trans (Nat.le_of_eq (by kernel_rfl)) hlo)
             subst hs0
             clear hlo hhi
             try simp [Is, Region.binds] at he
             have hc := Row.word (l := qpart x p q 2) hC p.c (by rw [qpart_length]; omega); have hf := hC.frozen p.c (by rw [vs_length, qpart_length]; omega); refine op_doneC rfl (wanted_none rfl) (by first | (go_simp; done) | (go_simp; rfl)) rfl ?_ (But.set _ _ _); have hst := hC.set p.c (V q.c); rw [vs_set] at hst; exact hst
           · intro a' w' s hs hp hC hlo hhi he
             rw [if_neg (by decide)]
             clear hlo hhi
             have e9 := hs 9 (by kernel_rfl)
             try simp [Is, Region.binds] at he
             exact op_v
           · intro a' w' s hs hp hC hlo hhi he
             rw [if_pos (by decide)]; intro hsc; clear hsc
             have hs0 : s = 3 := Nat.le_antisymm (Nat.le_trans hhi (Nat.le_of_eq (by kernel_rfl))) (Nat.le_trans (Nat.le_of_eq (by kernel_rfl)) hlo)
             subst hs0
             clear hlo hhi
             try simp [Is, Region.binds] at he
             have hc := Row.word (l := qpart x p q 3) hC p.d (by rw [qpart_length]; omega); have hf := hC.frozen p.d (by rw [vs_length, qpart_length]; omega); refine op_doneC rfl (wanted_none rfl) (by first | (go_simp; done) | (go_simp; rfl)) rfl ?_ (But.set _ _ _); have hst := hC.set p.d (V q.d); rw [vs_set] at hst; exact hst
          case hend =>
           intro a' w' hdef hsz hs hp hC hall
           obtain ⟨r0, r1, r2, r3, r4, r5, r6, r7, r8, r9, r10, r11, r12, r13, r14, r15, r16, r17, r18, r19, r20, r21, r22, r23, r24, r25, r26, r27, r28, r29, r30, r31, r32, r33, r34, r35, r36, r37, -⟩ := hall
           have hA := agree_done (agree_step (agree_step (agree_step (agree_step (agree_step (agree_step (agree_step (agree_step (agree_step (agree_step (agree_step (agree_step (agree_step (agree_step (agree_step (agree_step (agree_step (agree_step (agree_step (agree_step (agree_step (agree_step (agree_step (agree_step (agree_step (agree_step (agree_step (agree_step (agree_step (agree_step (agree_step (agree_step (agree_step (agree_step (agree_init [47, 48, 49, 50, 51, 52, 53, 54, 55, 56, 57, 58, 59, 60, 61, 62, 63, 64, 65, 66, 67, 68, 69, 70, 71, 46, 72, 73, 74, 75, 76, 77, 78, 79] hsz hs (by kernel_rfl)) r0) r1) r2) r3) r4) r5) r6) r7) r8) r9) r10) r11) r12) r13) r14) r15) r16) r17) r18) r19) r20) r21) r22) r23) r24) r25) r26) r27) r28) r29) r30) r32) r34) r36)
           have ha := act_of hA hdef
           rw [ha]
           clear ha hA hs hsz hdef r0 r1 r2 r3 r4 r5 r6 r7 r8 r9 r10 r11 r12 r13 r14 r15 r16 r17 r18 r19 r20 r21 r22 r23 r24 r25 r26 r27 r28 r29 r30 r31 r32 r33 r34 r35 r36 r37 
           (try simp only [List.setIfInBounds_toArray])
           (try dsimp only [List.set_cons_zero, List.set_cons_succ])
           (try simp only [Exit.then])
           replace hrf := hp.row hrf (by omega)
           replace hbel := But.below hbel hp (by omega) (by have := hbel.size; omega)
           have hrx5 : Row w' (w1.heap.size + 1) 200 (vs (qrun s (8 * n + k + 1))) := by rw [← HQF.out]; exact hC
           clear hrx hC hrp hp
           go_wp2_with fail
           go_roundw
           case rel => exact ⟨k + 1, by omega, by go_num, hrf, hrx5, hbel⟩
           case measure => simp [intOf]; omega
        · obtain rfl : k = 8 := by omega
          have hfl : decide ((8 : Int) < 8) = false := by decide
          go_wp2_with fail
          go_roundw
          case rel => exact ⟨n + 1, by omega, by go_num, hrf, hrx, hbel⟩
          case measure => simp [intOf]; omega
     · obtain rfl : n = 10 := by omega
       obtain ⟨x, hx⟩ : ∃ x, x = qrun s 80 := ⟨_, rfl⟩
       have hxl : x.length = 16 := by rw [hx, qrun_length, hsl]
       rw [show 8 * 10 = 80 from rfl, ← hx] at hrx
       obtain ⟨xv, hxv⟩ : ∃ l, l = vs x := ⟨_, rfl⟩
       have hxv16 : xv.length = 16 := by rw [hxv, vs_length, hxl]
       have htk2 : ((xv.drop 0).take 16) = xv := by rw [List.drop_zero, List.take_of_length_le (by omega)]
       rw [← hxv] at hrx
       have HX := Lib.hid hx
       have HXV := Lib.hid hxv
       rw [HSV.out] at hrf
       clear hx hxv
       go_wp2_with (refine wpList_load_part rfl 200 (.tmp 9) rfl (w1.heap.size + 1) 0 16 (by rfl) (hrx.alloc _) Tryz.underlying200 rfl hi16 (by omega) ?_; rw [htk2])
       have hbd : Bld (wr.alloc (.cells #[.pointer none, .slice none 0 0] 167)) wr.heap.size [] := Bld.new _ _ _ _ rfl rfl rfl
       have hbs := hbel.size
       have hflt := hrf.lt
       replace hrf := hrf.alloc (.cells #[.pointer none, .slice none 0 0] 167)
       replace hbel := hbel.alloc hbel.size (.cells #[.pointer none, .slice none 0 0] 167)
       obtain ⟨wo, hwo⟩ : ∃ wo : World, wo = wr := ⟨_, rfl⟩
       rw [← hwo] at hbd hrf hbs hflt hbel ⊢
       clear hrx hwo
       go_loopw [83] (fun i wq => ∃ j : Nat, j ≤ 16 ∧ i = .int .i64 (j : Int) ∧ Bld wq wo.heap.size (outC x s j) ∧ Row wq w1.heap.size 200 (vs s) ∧ Below w.heap.size w wq) (fun i _ => 16 - (intOf i).toNat)
       case atStart => exact ⟨0, by omega, rfl, hbd, hrf, hbel⟩
       case round =>
        clear hbd hrf hbel
        obtain ⟨j, hj, rfl, hbd, hrf, hbel⟩ := hrel
        have hbdl := hbd.lt
        have hfl := hrf.lt
        by_cases hlj : j < 16
        · have hst : outC x s (j+1) = outC x s j ++ putL (addL x s j).toNat 4 := rfl
          have hol := outC_le x s j hj
          obtain ⟨y, hy⟩ : ∃ y, y = x.getD j 0 := ⟨_, rfl⟩
          obtain ⟨z, hz⟩ : ∃ z, z = s.getD j 0 := ⟨_, rfl⟩
          rw [addL, ← hy, ← hz] at hst
          have hget : xv[j]? = some (V y) := by rw [HXV.out, hy]; exact vs_get _ _ (by omega)
          obtain ⟨acc, hacc⟩ : ∃ a, a = outC x s j := ⟨_, rfl⟩
          rw [← hacc] at hst hbd hol
          have hcz := Row.word hrf j (by omega)
          rw [← hz] at hcz
          obtain ⟨v, hv⟩ : ∃ v, v = y + z := ⟨_, rfl⟩
          have hadd : (wd y + wd z) % 4294967296 = wd v := by rw [hv, wd_add']
          rw [← hv] at hst
          have hadd2 : IntKind.u32.wrap (wd y + wd z) = wd v := by rw [hv, wd_add]
          have hwy : IntKind.u64.wrap (wd v) = wd v := wrap64_wd v
          have hwn := wd_nonneg v
          have hw4 : (putL (wd v).toNat 4).length = 4 := putL_length _ _
          have HST := Lib.hid hst
          have HACC := Lib.hid hacc
          have h0j : (0 : Int) ≤ j := by omega
          have h8j : (j : Int) < 16 := by omega
          have hix := fun w => run_index_agg (P := Tryz.prog) 200 108 16 xv .i64 j (V y) w Tryz.underlying200 hlj (by kernel_rfl) (by kernel_rfl) hget
          clear hst hacc hy hz hget hv
          go_wp2_with (first
           | (go_at_call 117; refine (putLittle (wd v) 4 _ hwn (by omega) (by omega)).mono ?_; rintro e w3 ⟨rfl, hp3⟩; replace hbd := hbd.pu hp3; replace hrf := hrf.pu hp3; replace hbel := hbel.trans (Below.mono hp3 hbel.size))
           | (go_at_call 108; refine (write wo.heap.size acc (putL (wd v).toNat 4) _ hbd (by omega)).mono ?_; rintro e w4 ⟨rfl, hbd4, hp4⟩))
          go_roundw
          case rel =>
           refine ⟨j + 1, by omega, by go_num, ?_, hrf.below hp4 hflt, hbel.trans (Below.mono hp4 hbs)⟩
           rw [HST.out]
           have : (wd v).toNat = v.toNat := wd_toNat v
           rw [← this]; exact hbd4
          case measure => simp [intOf]; omega
        · obtain rfl : j = 16 := by omega
          obtain ⟨acc, hacc⟩ : ∃ a, a = outC x s 16 := ⟨_, rfl⟩
          have hfin := HF.out
          rw [← HX.out, ← hacc] at hfin
          rw [← hacc] at hbd
          have HACC := Lib.hid hacc
          have HFIN := Lib.hid hfin
          clear hacc hfin
          go_wp2_with (go_at_call 110; refine (string wo.heap.size acc _ hbd).mono ?_; rintro e w4 ⟨rfl, hp4⟩)
          go_ret
          exact ⟨by rw [HFIN.out]; rfl, hbel.trans (Below.mono hp4 hbs)⟩
end Go.Proofs.YtoakccknimoogaaGreat
