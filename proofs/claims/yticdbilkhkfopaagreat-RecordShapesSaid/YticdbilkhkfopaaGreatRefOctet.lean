/- The document's PutBig and Big. -/
import Derived.Test.YticdbilkhkfopaaGreatOctet
import Derived.Test.YticdbilkhkfopaaGreatStep
set_option linter.unusedSimpArgs false
set_option linter.unusedVariables false
namespace Go.Esc
open Go Go.RowKit
theorem and255 (v : Nat) (h : v < 18446744073709551616) : Go.bits .and .u64 (v : Int) 255 = ((v % 256 : Nat) : Int) := by
  rw [show (255 : Int) = ((255 : Nat) : Int) from rfl, u64_and _ _ (by omega) (by omega) (by omega) (by omega)]
  congr 1
  rw [Int.toNat_natCast, Int.toNat_natCast, show (255 : Nat) = 2 ^ 8 - 1 from rfl, Nat.and_two_pow_sub_one_eq_mod]
end Go.Esc
namespace Go.Proofs.YticdbilkhkfopaaGreat
open Go.RowKit Go.Esc
set_option maxHeartbeats 800000 in
theorem refPutBig (v : Int) (n : Int) (w : World) (hv : 0 ≤ v) (hv2 : v < 18446744073709551616) (hn : 1 ≤ n) (hn8 : n ≤ 8) :
    Calls Tryz.prog 58 #[.int .u64 v, .int .i64 n] w fun e w' => e = .returned (S (putB v.toNat n.toNat)) ∧ Pu w w' := by
  obtain ⟨i0, hi, hz0, hz1, hz2⟩ := info_parts infoB
  obtain ⟨m, rfl⟩ := Int.eq_ofNat_of_zero_le (by omega : 0 ≤ n)
  obtain ⟨u, rfl⟩ := Int.eq_ofNat_of_zero_le (by omega : 0 ≤ v)
  have h1 : decide ((m:Int) < 1) = false := by simp; omega
  have h2 : decide ((8:Int) < m) = false := by simp; omega
  go_enter Tryz.func58, Tryz.ntmps58
  go_wp2_with (at_make; refine wpList_make_full _ rfl _ _ 42 rfl w.heap.size 5 i0 (.int .u8 0) 1 Tryz.underlying42 hi hz0 hz1 _ _ _ _ m rfl rfl rfl rfl (by rw [hz2]; omega) (by unfold maxLen; omega) (Nat.le_refl _) ?_; intro w1 hown hgrow)
  go_loopw [0, 6] (fun x i wr => ∃ k : Nat, k ≤ m ∧ x = .int .u64 ((u / 256 ^ k : Nat) : Int) ∧ i = .int .i64 ((m : Int) - 1 - k) ∧ wr.ownsRow w.heap.size 5 1 (.slice (some ⟨w.heap.size, 0, none⟩) m m) m (cells (List.replicate (m-k) 0 ++ putB u k)) ∧ Below w.heap.size w wr) (fun _ i _ => (intOf i + 1).toNat)
  case atStart => exact ⟨0, Nat.zero_le _, by simp, by go_num, by rw [madeZ] at hown; simpa [putB] using hown, (Below.refl _ _).grown hgrow (Nat.le_refl _) (by simp)⟩
  case round =>
    obtain ⟨k, hk, rfl, rfl, hown, hbel⟩ := hrel
    by_cases hlt : k < m
    · have hl : (List.replicate (m-k) 0 ++ putB u k).length = m := by simp [putB_length]; omega
      obtain ⟨p, hpp⟩ : ∃ p, p = m - 1 - k := ⟨_, rfl⟩
      have hpm : p < m := by omega
      have hpl : p < (List.replicate (m-k) 0 ++ putB u k).length := by omega
      have HPP := Lib.hid hpp
      have hpi : (m : Int) - 1 - k = (p : Int) := by omega
      have hse : (cells (List.replicate (m-k) 0 ++ putB u k)).set p (.int .u8 ((u / 2^(8*k) % 256 : Nat) : Int)) = cells (List.replicate (m-(k+1)) 0 ++ putB u (k+1)) := by rw [hpp]; exact set_big u m k hlt
      clear hpp
      have hc := hown.cellAt p (by rw [Nat.mul_one]; exact hpm)
      rw [cells_get _ _ hpl] at hc
      have hf := hown.frozenAt p
      have hst := hown.stored p (.int .u8 ((u / 2^(8*k) % 256 : Nat) : Int))
      rw [hse] at hst
      clear hse
      obtain ⟨y, hy⟩ : ∃ y, y = u / 256 ^ k := ⟨_, rfl⟩
      have hyl : y < 18446744073709551616 := by rw [hy]; exact Nat.lt_of_le_of_lt (Nat.div_le_self _ _) (by omega)
      have hp : u / 2 ^ (8*k) = y := by rw [hy, Nat.pow_mul]
      have hn : u / 256 ^ (k+1) = y / 256 := by rw [hy, Nat.pow_succ, Nat.div_div_eq_div_mul]
      rw [hp] at hst
      rw [← hy]
      have ha := and255 y hyl
      have hw : IntKind.u8.wrap ((y % 256 : Nat) : Int) = ((y % 256 : Nat) : Int) := by rw [IntKind.wrap_u8]; omega
      have hq : ((y : Int)).tdiv 256 = ((y / 256 : Nat) : Int) := by rw [Int.tdiv_eq_ediv_of_nonneg (by omega)]; omega
      have hpm' : (p : Int) < m := by omega
      have hp0 : (0 : Int) ≤ p := by omega
      have hi4 : IntKind.i64.wrap ((p : Int) - 1) = p - 1 := by rw [IntKind.wrap_i64]; omega
      rw [hpi]
      obtain ⟨r, hr⟩ : ∃ r, r = y % 256 := ⟨_, rfl⟩
      obtain ⟨q, hq2⟩ : ∃ q, q = y / 256 := ⟨_, rfl⟩
      rw [← hr] at ha hw hst
      rw [← hq2] at hq hn
      have hr256 : r < 256 := by omega
      have hql : IntKind.u64.wrap (q : Int) = q := by rw [IntKind.wrap_u64]; omega
      have HN := Lib.hid hn
      clear hy hp hn hr hq2 hv2 hyl hpi
      go_wp2_with fail
      go_roundw
      case rel => exact ⟨k+1, by omega, by rw [HN.out], by have := HPP.out; rw [show (m : Int) - 1 - ((k+1 : Nat) : Int) = (p : Int) - 1 by omega], hst.1, hbel.grown hst.2 hbel.size (by simp)⟩
      case measure => first | (simp [intOf]; done) | (simp [intOf]; omega)
    · obtain rfl : k = m := by omega
      simp only [Nat.sub_self, List.replicate_zero, List.nil_append] at hown
      have hcv := own_conv (P := Tryz.prog) 42 9 hown Tryz.underlying42 Tryz.underlying5 Tryz.underlying9
      obtain ⟨y, hy⟩ : ∃ y, y = u / 256 ^ k := ⟨_, rfl⟩
      rw [← hy]
      have hneg : decide ((0 : Int) ≤ (k : Int) - 1 - k) = false := by simp; omega
      have hneg2 : ¬ ((0 : Int) ≤ (k : Int) - 1 - k) := by omega
      have hneg3 : (k : Int) - 1 - k = -1 := by omega
      clear hy
      go_wp2_with fail
      go_ret
      exact ⟨rfl, hbel⟩
set_option maxHeartbeats 800000 in
theorem refBig (l : List UInt8) (w : World) (hl : l.length ≤ 8) :
    Calls Tryz.prog 97 #[S l] w fun e w' => e = .returned (.int .u64 (beN l)) ∧ w' = w := by
  have hm0 : IntKind.i64.wrap ((l.length : Int) - 8) = l.length - 8 := by rw [IntKind.wrap_i64]; omega
  have hm1 : max ((l.length : Int) - 8) 0 = 0 := by omega
  by_cases h8 : l.length = 8
  · have hx : (l.length : Int) - 8 = 0 := by omega
    clear hm1
    go_enter Tryz.func97, Tryz.ntmps97
    go_wp2_with fail
    go_loop [3, 4] (fun v i => ∃ k : Nat, k ≤ l.length ∧ i = .int .i64 k ∧ v = .int .u64 (beN (l.take k))) (fun _ i => l.length - (intOf i).toNat)
    case atStart => exact ⟨0, by omega, rfl, rfl⟩
    case round =>
      obtain ⟨k, hk, rfl, rfl⟩ := hrel
      by_cases hlt : k < l.length
      · have hb : beN (l.take k) ≤ 72057594037927935 := beN_le (by simp; omega)
        have hs := beN_take_succ l k hlt
        obtain ⟨x, hx⟩ : ∃ x, x = beN (l.take k) := ⟨_, rfl⟩
        obtain ⟨c, hc⟩ : ∃ c, l[k] = c := ⟨_, rfl⟩
        have hu := c.toNat_lt
        rw [← hx] at hb hs
        rw [hc] at hs
        rw [← hx]
        have q1 : IntKind.u64.wrap ((x : Int) * 256) = x * 256 := by rw [IntKind.wrap_u64]; omega
        have q2 : IntKind.u64.wrap ((x : Int) * 256 + c.toNat) = x * 256 + c.toNat := by rw [IntKind.wrap_u64]; omega
        have q3 : IntKind.u64.wrap (c.toNat : Int) = c.toNat := by rw [IntKind.wrap_u64]; omega
        have HS := Lib.hid hs
        clear hx hs
        go_wp2_with fail
        go_round
        case rel => exact ⟨k+1, by omega, by go_num, by rw [HS.out]; rfl⟩
        case measure => simp [intOf]; omega
      · obtain rfl : k = l.length := by omega
        go_wp2_with fail
        go_ret
        exact ⟨by first | rfl | (rw [List.take_of_length_le (by omega)]; rfl), rfl⟩
  · have hx : (l.length : Int) - 8 < 0 := by omega
    clear hm1
    go_enter Tryz.func97, Tryz.ntmps97
    go_wp2_with fail
    go_loop [3, 4] (fun v i => ∃ k : Nat, k ≤ l.length ∧ i = .int .i64 k ∧ v = .int .u64 (beN (l.take k))) (fun _ i => l.length - (intOf i).toNat)
    case atStart => exact ⟨0, by omega, rfl, rfl⟩
    case round =>
      obtain ⟨k, hk, rfl, rfl⟩ := hrel
      by_cases hlt : k < l.length
      · have hb : beN (l.take k) ≤ 72057594037927935 := beN_le (by simp; omega)
        have hs := beN_take_succ l k hlt
        obtain ⟨x, hx⟩ : ∃ x, x = beN (l.take k) := ⟨_, rfl⟩
        obtain ⟨c, hc⟩ : ∃ c, l[k] = c := ⟨_, rfl⟩
        have hu := c.toNat_lt
        rw [← hx] at hb hs
        rw [hc] at hs
        rw [← hx]
        have q1 : IntKind.u64.wrap ((x : Int) * 256) = x * 256 := by rw [IntKind.wrap_u64]; omega
        have q2 : IntKind.u64.wrap ((x : Int) * 256 + c.toNat) = x * 256 + c.toNat := by rw [IntKind.wrap_u64]; omega
        have q3 : IntKind.u64.wrap (c.toNat : Int) = c.toNat := by rw [IntKind.wrap_u64]; omega
        have HS := Lib.hid hs
        clear hx hs
        go_wp2_with fail
        go_round
        case rel => exact ⟨k+1, by omega, by go_num, by rw [HS.out]; rfl⟩
        case measure => simp [intOf]; omega
      · obtain rfl : k = l.length := by omega
        go_wp2_with fail
        go_ret
        exact ⟨by first | rfl | (rw [List.take_of_length_le (by omega)]; rfl), rfl⟩
end Go.Proofs.YticdbilkhkfopaaGreat
