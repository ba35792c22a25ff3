/- Chapter 13: RecordFar. -/
import Derived.Test.YticdbilkhkfopaaGreatLaw13g
set_option linter.unusedSimpArgs false
set_option linter.unusedVariables false
namespace Go.Proofs.YticdbilkhkfopaaGreat
open Go.RowKit Go.Esc
set_option maxRecDepth 100000 in
set_option maxHeartbeats 3200000 in
theorem recordFar_walk (s : ByteArray) (hs : s.size ≤ maxLen) (n : Int) (_ : (Lit.int .i64 n).wf = true) (w : World) :
    Calls Tryz.prog 20 #[.string s, .int .i64 n] w fun e w' => e = .returned (.bool true) ∧ Pu w w' := by
  obtain ⟨k0, rfl⟩ : ∃ a, s = bs a := ⟨_, bs_eta s⟩
  have hk0 : k0.length ≤ 9223372036854775807 := by rw [bs_size] at hs; unfold maxLen at hs; omega
  clear hs
  by_cases hg : n < 64 ∨ 90 < n
  · rcases (by omega : n < 64 ∨ (64 ≤ n ∧ 90 < n)) with h1 | ⟨h1, h2⟩
    · clear hg
      go_enter Tryz.func20, Tryz.ntmps20
      go_wp2_with (go_at_call 53; refine (alive13 _).mono ?_; rintro e w1 ⟨rfl, hp1⟩)
      go_ret
      exact ⟨rfl, hp1⟩
    · have q1 : ¬ n < 64 := by omega
      clear hg
      go_enter Tryz.func20, Tryz.ntmps20
      go_wp2_with (go_at_call 53; refine (alive13 _).mono ?_; rintro e w1 ⟨rfl, hp1⟩)
      go_ret
      exact ⟨rfl, hp1⟩
  · obtain ⟨h2, h3⟩ : 64 ≤ n ∧ n ≤ 90 := by omega
    obtain ⟨N, rfl⟩ := Int.eq_ofNat_of_zero_le (show 0 ≤ n by omega)
    have q2 : ¬ (N : Int) < 64 := by omega
    have q3 : ¬ (90 : Int) < N := by omega
    have hN : 64 ≤ N ∧ N ≤ 90 := by omega
    obtain ⟨M, hM⟩ : ∃ M, M + 63 = N := ⟨N - 63, by omega⟩
    have hMi : (N : Int) - 63 = M := by omega
    obtain ⟨pp, hpp⟩ := padL_short (p := xW) (by decide)
    have hfl := fun w => fillAny k0 32 hk0 (by decide) w
    have hkl := fillL_length k0 32
    obtain ⟨key, hkey⟩ : ∃ k, k = fillL k0 32 := ⟨_, rfl⟩
    rw [← hkey] at hfl hkl
    obtain ⟨is0, his, hsz, hss, hsb⟩ := info_parts infoSt
    have i64a : IntKind.i64.wrap ((N : Int) - 64) = N - 64 := by rw [IntKind.wrap_i64]; omega
    have i64b : IntKind.i64.wrap ((N : Int) - 63) = (N : Int) - 63 := by rw [IntKind.wrap_i64]; omega
    have HF := Lib.hid hfl
    have HPP := Lib.hid hpp
    have HKL := Lib.hid hkl
    clear hg hfl hpp hkl hkey h2 h3
    go_enter Tryz.func20, Tryz.ntmps20
    go_wp2_with (first
      | (go_at_call 53; refine (alive13 _).mono ?_; rintro e w1 ⟨rfl, hp1⟩)
      | (go_at_call 26; refine (HF.out _).mono ?_; rintro e w2 ⟨rfl, rfl⟩)
      | (go_at_call 54; refine (newOut key HKL.out _).mono ?_; rintro e w3 ⟨ob, rfl, ho3, hp3⟩)
      | (go_at_call 59; refine (newIn key HKL.out _).mono ?_; rintro e w4 ⟨ib, rfl, hi4, hp4⟩
         have oi4 := OI.start (hp1.trans hp3) hp1 hp3 ho3 hi4 hp4))
    have oil4 : OIL _ _ w w4 ob ib key key 0 0 0 (inOrd 0) (.slice none 0 0) [] := ⟨oi4, World.ownsRow_nil _ _ _ _, fun g hg => by cases hg⟩
    go_loopw [7, 8] (fun v x wr => ∃ (k : Nat) (Go Gi : Nat → Prop), k ≤ N + 1 ∧ x = .int .i64 (k : Int) ∧ OIL Go Gi w wr ob ib key key k k 0 (inOrd 0) v (recsL key xW k)) (fun _ x _ => N + 1 - (intOf x).toNat)
    case atStart => exact ⟨0, _, _, Nat.zero_le _, rfl, oil4⟩
    case round =>
      clear oil4 oi4 ho3 hi4
      obtain ⟨k, Go, Gi, hk, rfl, oil⟩ := hrel
      by_cases hlt : k < N + 1
      · have hk1 : (k : Int) ≤ N := by omega
        have hown := oil.own
        rw [recsL_length] at hown
        obtain ⟨va, vc, rfl, -⟩ := own_slice hown
        clear hown
        go_wp2_with (first
          | (go_at_call 55; refine (oilSeal oil HKL.out xW _ HPP.out (by omega) (by omega) (by decide)).mono ?_; rintro e w5 ⟨rfl, oil5⟩
             obtain ⟨r, hr⟩ : ∃ r, r = recL key k xW := ⟨_, rfl⟩
             rw [← hr]
             have HR := Lib.hid hr
             clear hr
             have hown5 := oil5.own
             rw [recsL_length] at hown5)
          | (at_builtin; refine wpList_append_own_at _ rfl _ _ 95 rfl w.heap.size 9 is0 (.string ⟨#[]⟩) 1 16 Tryz.underlying95 his hsz hss hsb rfl (by decide) (.slice va k vc) k _ rfl (hown5.alloc _) ⟨w5.heap.size, 0, none⟩ 1 1 [S r] rfl rfl (cell_one_newS _ _ _) (by simp [Value.oneCell']) (by unfold maxLen; omega) (by omega) (by have := oil5.oi.since.size; simp; omega) ?_; intro v' w6 ho6 hg6 _ hat6))
        go_roundw
        case rel =>
          have h6 := (oil5.pu ((Pu.refl w5).alloc (.cells #[S r] 9))).push (t := r) (by rw [recsL_length]; exact ho6) hg6 hat6
          rw [HR.out, ← recsL_succ] at h6
          exact ⟨k+1, _, _, by omega, by go_num, h6⟩
        case measure => simp [intOf]; omega
      · obtain rfl : k = N + 1 := by omega
        have hlt' : decide (((N + 1 : Nat) : Int) ≤ N) = false := by simp; omega
        have hown := oil.own
        rw [recsL_length] at hown
        obtain ⟨gl, cl, rfl, -, -⟩ := own_form hown (by omega)
        have hcN : wr.cell? ⟨gl, N, none⟩ = some (S (recL key N xW)) := by
          rw [hown.cellAt N (by omega), recsL_at key xW (N+1) N (by omega)]
        have hrl := recL_le key N HPP.out
        have hfar : openS key (inOrd 0) (recL key N xW) = (4, [], inOrd 0) := by
          rw [openS_recL key (inOrd 0) N xW pp HKL.out HPP.out (by omega), if_pos (by simp only [inOrd]; omega)]
        have s3 : openS key (inOrd (M)) (recL key N xW) = (0, [], ⟨M, cutF (updF (fun _ => none) N (some xW)) (M), 1⟩) :=
          openS_run key (inOrd (M)) N xW pp HKL.out HPP.out (by omega) (by simp only [inOrd]; omega) (by simp only [inOrd]; omega) rfl [] (run_nil (if_neg (show ¬ (M = N) by omega))) (inOrd_ok _ (by omega))
        obtain ⟨r, hr⟩ : ∃ r, r = recL key N xW := ⟨_, rfl⟩
        rw [← hr] at hcN hrl hfar s3
        have ii : (N : Int) < ((N + 1 : Nat) : Int) := by omega
        have i0 : (0 : Int) ≤ N := by omega
        have HR := Lib.hid hr
        have HFAR := Lib.hid hfar
        have HS3 := Lib.hid s3
        clear hfar s3 hr hown
        go_wp2_with (go_at_call 61; refine (oilOpen oil HKL.out r (by decide) (by omega)).mono ?_; rw [HFAR.out]; rintro e w7 ⟨v7, rfl, ho7, oil7⟩; change World.ownsRow _ _ _ 1 v7 0 [] at ho7; obtain ⟨a7, q7, rfl, -⟩ := own_slice ho7)
        have oil7' : OIL Go _ w w7 ob ib key key (N + 1) (N + 1) (0 + 1) (inOrd 0) (.slice (some ⟨gl, 0, none⟩) (N + 1) cl) (recsL key xW (N + 1)) := oil7
        clear oil7 ho7 oil hcN
        go_loopw [13] (fun x wq => ∃ (k : Nat) (Go Gi : Nat → Prop), k ≤ M ∧ x = .int .i64 (k : Int) ∧ OIL Go Gi w wq ob ib key key (N + 1) (N + 1) (k + 1) (inOrd k) (.slice (some ⟨gl, 0, none⟩) (N + 1) cl) (recsL key xW (N + 1))) (fun x _ => N - (intOf x).toNat)
        case atStart => exact ⟨0, _, _, Nat.zero_le _, rfl, oil7'⟩
        case round =>
          clear oil7'
          obtain ⟨k, Go, Gi, hk, rfl, oil⟩ := hrel
          have hown := oil.own
          rw [recsL_length] at hown
          by_cases hlt : k < M
          · have hk1 : (k : Int) ≤ (N : Int) - 64 := by omega
            have hck : wr.cell? ⟨gl, k, none⟩ = some (S (recL key k xW)) := by
              rw [hown.cellAt k (by omega), recsL_at key xW (N+1) k (by omega)]
            have hrlk := recL_le key k HPP.out
            have hso := openS_ord key k xW pp HKL.out HPP.out (by omega)
            obtain ⟨rk, hrk⟩ : ∃ r, r = recL key k xW := ⟨_, rfl⟩
            rw [← hrk] at hck hrlk hso
            have jj : (k : Int) < ((N + 1 : Nat) : Int) := by omega
            have j0 : (0 : Int) ≤ k := by omega
            have HSO := Lib.hid hso
            clear hso hrk hown
            go_wp2_with (go_at_call 61; refine (oilOpen oil HKL.out rk (by omega) (by omega)).mono ?_; rw [HSO.out]; rintro e w8 ⟨v8, rfl, ho8, oil8⟩; change World.ownsRow _ _ _ 1 v8 1 _ at ho8; obtain ⟨a8, q8, rfl, -⟩ := own_slice ho8)
            go_roundw
            case rel => exact ⟨k+1, _, _, by omega, by go_num, oil8⟩
            case measure => simp [intOf]; omega
          · obtain rfl : k = M := by omega
            have hlt' : decide ((k : Int) ≤ (N : Int) - 64) = false := by simp; omega
            have hck : wr.cell? ⟨gl, N, none⟩ = some (S (recL key N xW)) := by
              rw [hown.cellAt N (by omega), recsL_at key xW (N+1) N (by omega)]
            rw [← HR.out] at hck
            go_wp2_with (first
              | (go_at_call 61; refine (oilOpen oil HKL.out r (by omega) (by omega)).mono ?_; rw [HS3.out]; rintro e w8 ⟨v8, rfl, ho8, oil8⟩; change World.ownsRow _ _ _ 1 v8 0 _ at ho8; obtain ⟨a8, q8, rfl, -⟩ := own_slice ho8)
              | (go_at_call 67; refine (inWaits oil8.oi.i).mono ?_; rintro e w9 ⟨rfl, rfl⟩)
              | (go_at_call 62; refine (inNext oil8.oi.i).mono ?_; rintro e w9 ⟨rfl, rfl⟩))
            go_ret
            exact ⟨rfl, oil8.oi.since⟩
end Go.Proofs.YticdbilkhkfopaaGreat
