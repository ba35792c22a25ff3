/- Contracts of package octet. -/
import Derived.Test.YticdbilkhkfopaaGreatProg
import Derived.Test.YticdbilkhkfopaaGreatBase
import Derived.Test.YticdbilkhkfopaaGreatPure
import Derived.Lib.Hide
set_option linter.unusedSimpArgs false
set_option linter.unusedVariables false
namespace Go.Proofs.YticdbilkhkfopaaGreat
open Go.RowKit Go.Esc
theorem infoB : (Tryz.prog.info? 5).map (fun i => (i.zero, i.size, i.bytes)) = some (some (.int .u8 0), 1, 1) := by kernel_rfl

theorem putB_length (v n : Nat) : (putB v n).length = n := by induction n <;> simp [putB, *]
theorem set_big (v m k : Nat) (h : k < m) : (cells (List.replicate (m-k) 0 ++ putB v k)).set (m-1-k) (.int .u8 ((v / 2^(8*k) % 256 : Nat) : Int)) = cells (List.replicate (m-(k+1)) 0 ++ putB v (k+1)) := by
  obtain ⟨j, rfl⟩ : ∃ j, m = k + 1 + j := ⟨m - (k+1), by omega⟩
  have e1 : k + 1 + j - k = j + 1 := by omega
  have e2 : k + 1 + j - 1 - k = j := by omega
  have e3 : k + 1 + j - (k+1) = j := by omega
  rw [e1, e2, e3, List.replicate_succ']
  have : ((v / 2^(8*k) % 256 : Nat) : Int) = ((UInt8.ofNat (v / 256^k)).toNat : Int) := by
    rw [Nat.pow_mul]; simp
  rw [this, cells_set]
  simp [putB]

set_option maxHeartbeats 400000 in
theorem putBig (v : Int) (n : Int) (w : World) (hv : 0 ≤ v) (hn : 1 ≤ n) (hn8 : n ≤ 8) :
    Calls Tryz.prog 93 #[.int .u64 v, .int .i64 n] w fun e w' => e = .returned (S (putB v.toNat n.toNat)) ∧ Pu w w' := by
  obtain ⟨i0, hi, hz0, hz1, hz2⟩ := info_parts infoB
  obtain ⟨m, rfl⟩ := Int.eq_ofNat_of_zero_le (by omega : 0 ≤ n)
  obtain ⟨u, rfl⟩ := Int.eq_ofNat_of_zero_le (by omega : 0 ≤ v)
  have h1 : decide ((m:Int) < 1) = false := by simp; omega
  have h2 : decide ((8:Int) < m) = false := by simp; omega
  go_enter Tryz.func93, Tryz.ntmps93
  go_wp2_with (at_make; refine wpList_make_full _ rfl _ _ 42 rfl w.heap.size 5 i0 (.int .u8 0) 1 Tryz.underlying42 hi hz0 hz1 _ _ _ _ m rfl rfl rfl rfl (by rw [hz2]; omega) (by unfold maxLen; omega) (Nat.le_refl _) ?_; intro w1 hown hgrow)
  go_loopw [17] (fun i wr => ∃ k : Nat, k ≤ m ∧ i = .int .i64 k ∧ wr.ownsRow w.heap.size 5 1 (.slice (some ⟨w.heap.size, 0, none⟩) m m) m (cells (List.replicate (m-k) 0 ++ putB u k)) ∧ Below w.heap.size w wr) (fun i _ => m - (intOf i).toNat)
  case atStart => exact ⟨0, Nat.zero_le _, rfl, by rw [madeZ] at hown; simpa [putB] using hown, (Below.refl _ _).grown hgrow (Nat.le_refl _) (by simp)⟩
  case round =>
    obtain ⟨k, hk, rfl, hown, hbel⟩ := hrel
    by_cases hlt : k < m
    · have hl : (List.replicate (m-k) 0 ++ putB u k).length = m := by simp [putB_length]; omega
      have hc := hown.cellAt (m-1-k) (by omega)
      rw [cells_get _ _ (by omega)] at hc
      have hf := hown.frozenAt (m-1-k)
      have hst := hown.stored (m-1-k) (.int .u8 ((u / 2^(8*k) % 256 : Nat) : Int))
      rw [set_big u m k hlt] at hst
      go_wp2_with fail
      go_roundw
      case rel => exact ⟨k+1, by omega, by go_num, hst.1, hbel.grown hst.2 hbel.size (by simp)⟩
      case measure => simp [intOf]; omega
    · obtain rfl : k = m := by omega
      simp only [Nat.sub_self, List.replicate_zero, List.nil_append] at hown
      have hcv := own_conv (P := Tryz.prog) 42 9 hown Tryz.underlying42 Tryz.underlying5 Tryz.underlying9
      go_wp2_with fail
      go_ret
      exact ⟨rfl, hbel⟩

set_option maxHeartbeats 400000 in
theorem big (l : List UInt8) (w : World) (hl : l.length ≤ 8) :
    Calls Tryz.prog 102 #[S l] w fun e w' => e = .returned (.int .u64 (beN l)) ∧ Pu w w' := by
  by_cases h8 : l.length = 8
  · have ht : l.take 8 = l := List.take_of_length_le (by omega)
    go_enter Tryz.func102, Tryz.ntmps102
    go_wp2_with (refine wpList_bytes _ rfl (.tmp 11) 9 42 5 rfl l (by first | rfl | simp [Act.eval]) Tryz.underlying9 Tryz.underlying42 Tryz.underlying5 ?_; intro w1 cap hrow hpu hcap)
    go_loop [3, 14] (fun v i => ∃ k : Nat, k ≤ 8 ∧ i = .int .i64 k ∧ v = .int .u64 (beN (l.take k))) (fun _ i => 8 - (intOf i).toNat)
    case atStart => exact ⟨0, by omega, rfl, rfl⟩
    case round =>
      obtain ⟨k, hk, rfl, rfl⟩ := hrel
      by_cases hlt : k < 8
      · have hc := hrow.byte k (by omega)
        have hb : beN (l.take k) ≤ 72057594037927935 := beN_le (by simp; omega)
        have hu := l[k].toNat_lt
        go_wp2_with fail
        go_round
        case rel => exact ⟨k+1, by omega, by go_num, by rw [bits_or256 _ _ hb hu, beN_take_succ l k (by omega)]⟩
        case measure => simp [intOf]; omega
      · obtain rfl : k = 8 := by omega
        go_wp2_with fail
        go_ret
        exact ⟨by first | rfl | (rw [List.take_of_length_le (by omega)]; rfl), hpu⟩
  · have ht : l.take l.length = l := List.take_length
    go_enter Tryz.func102, Tryz.ntmps102
    go_wp2_with (refine wpList_bytes _ rfl (.tmp 11) 9 42 5 rfl l (by first | rfl | simp [Act.eval]) Tryz.underlying9 Tryz.underlying42 Tryz.underlying5 ?_; intro w1 cap hrow hpu hcap)
    go_loop [3, 14] (fun v i => ∃ k : Nat, k ≤ l.length ∧ i = .int .i64 k ∧ v = .int .u64 (beN (l.take k))) (fun _ i => l.length - (intOf i).toNat)
    case atStart => exact ⟨0, by omega, rfl, rfl⟩
    case round =>
      obtain ⟨k, hk, rfl, rfl⟩ := hrel
      by_cases hlt : k < l.length
      · have hc := hrow.byte k (by omega)
        have hb : beN (l.take k) ≤ 72057594037927935 := beN_le (by simp; omega)
        have hu := l[k].toNat_lt
        go_wp2_with fail
        go_round
        case rel => exact ⟨k+1, by omega, by go_num, by rw [bits_or256 _ _ hb hu, beN_take_succ l k (by omega)]⟩
        case measure => simp [intOf]; omega
      · obtain rfl : k = l.length := by omega
        go_wp2_with fail
        go_ret
        exact ⟨by first | rfl | (rw [List.take_of_length_le (Nat.le_refl _)]; rfl), hpu⟩
end Go.Proofs.YticdbilkhkfopaaGreat
