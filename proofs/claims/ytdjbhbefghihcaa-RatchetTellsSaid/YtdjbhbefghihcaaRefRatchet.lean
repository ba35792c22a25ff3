/- The document's Turn, Nonce, Session. -/
import Derived.Test.YtdjbhbefghihcaaSession
import Derived.Test.YtdjbhbefghihcaaRefDerive
set_option linter.unusedSimpArgs false
set_option linter.unusedVariables false
namespace Go.Proofs.Ytdjbhbefghihcaa
open Go.RowKit Go.Esc
set_option maxRecDepth 100000 in
set_option maxHeartbeats 1600000 in
theorem refSession (secret salt : Bs) (h : salt.length ≤ 100000) (h2 : secret.length ≤ 800000) (w : World) :
    Calls Try.prog 74 #[S secret, S salt] w fun e w' => e = .returned (.agg (keysV secret salt).toArray) ∧ Pu w w' := by
  have hi : (Try.prog.info? 69).map (·.size) = some 2 := by kernel_rfl
  have hK1 := fun w => refKey secret salt upW h h2 (by decide) w
  have hK2 := fun w => refKey secret salt downW h h2 (by decide) w
  obtain ⟨u, hu⟩ : ∃ u, u = deriveL secret salt upW := ⟨_, rfl⟩
  obtain ⟨d, hd⟩ : ∃ u, u = deriveL secret salt downW := ⟨_, rfl⟩
  have hkv : keysV secret salt = [S u, S d] := by rw [keysV, ← hu, ← hd]
  rw [hkv]
  rw [← hu] at hK1
  rw [← hd] at hK2
  have HK1 := Lib.hid hK1
  have HK2 := Lib.hid hK2
  have hb0 := (Pu.refl w).alloc (.cells #[.string ⟨#[]⟩, .string ⟨#[]⟩] 69)
  clear hK1 hK2 hu hd hkv
  go_enter Try.func74, Try.ntmps74
  go_wp2_with (first
    | (go_at_call 60; first
       | (refine (HK1.out _).mono ?_; rintro e w2 ⟨rfl, hp2⟩; clear HK1)
       | (refine (HK2.out _).mono ?_; rintro e w3 ⟨rfl, hp3⟩))
    | (refine wpList_store_part rfl 69 (.tmp 4) (.tmp 11) rfl w.heap.size 0 [S u, S d] (by rfl) (by rfl) (((Row.newAt w w.heap.size _ _ rfl rfl).pu hp2).pu hp3) hi (by simp) (by simp [Value.oneCell']) ?_; intro w4 hr4 hch4))
  rw [splice_all (by rfl)] at hr4
  have hrl := hr4.load (P := Try.prog) 69 0 2 Try.underlying69 rfl hi (by simp)
  (try simp only [Exit.inBlock, Exit.then])
  refine bodyPost_ret (results_cell_eq rfl _ _ rfl hrl) rfl ?_
  exact ⟨rfl, hch4.below ((hb0.trans hp2).trans hp3) (Nat.le_refl _)⟩
theorem refNonce (n : Nat) (hn : n < 9223372036854775808) (w : World) :
    Calls Try.prog 71 #[.int .i64 (n : Int)] w fun e w' => e = .returned (S (nonceL n)) ∧ Pu w w' := by
  have hR := fun w => refZeros 4 (by decide) w
  have hP := fun w => refPutBig (n : Int) 8 w (by omega) (by omega) (by omega) (by omega)
  obtain ⟨r, hr⟩ : ∃ r, r = List.replicate 4 (0 : UInt8) := ⟨_, rfl⟩
  obtain ⟨p, hp⟩ : ∃ p, p = putB n 8 := ⟨_, rfl⟩
  have hrl : r.length = 4 := by rw [hr]; rfl
  have hpl : p.length = 8 := by rw [hp]; exact putB_length _ _
  rw [← hr] at hR
  rw [show putB ((n : Int)).toNat (8 : Int).toNat = p by rw [hp]; rfl] at hP
  have hfin : r ++ p = nonceL n := by rw [hr, hp]; rfl
  obtain ⟨x, hx⟩ : ∃ x, x = nonceL n := ⟨_, rfl⟩
  rw [← hx] at hfin ⊢
  have hw : IntKind.u64.wrap (n : Int) = n := by rw [IntKind.wrap_u64]; omega
  have HR := Lib.hid hR
  have HP := Lib.hid hP
  clear hR hP hr hp hx
  go_enter Try.func71, Try.ntmps71
  go_wp2_with (first
    | (go_at_call 97; refine (HR.out _).mono ?_; rintro e w1 ⟨rfl, hp1⟩)
    | (go_at_call 80; refine (HP.out _).mono ?_; rintro e w2 ⟨rfl, hp2⟩))
  go_ret
  exact ⟨rfl, hp1.trans hp2⟩
set_option maxRecDepth 100000 in
set_option maxHeartbeats 1600000 in
theorem refTurn (k : Bs) (n : Nat) (h : k.length ≤ 100000) (h1 : n ≤ 1000) (w : World) :
    Calls Try.prog 70 #[S k, .int .i64 (n : Int)] w fun e w' => e = .returned (S (turnL k n)) ∧ Pu w w' := by
  go_enter Try.func70, Try.ntmps70
  go_wp2_with fail
  go_loopw [0, 5] (fun v i wr => ∃ j : Nat, j ≤ n ∧ v = S (turnL k j) ∧ i = .int .i64 (j : Int) ∧ Pu w wr) (fun _ i _ => n - (intOf i).toNat)
  case atStart => exact ⟨0, by omega, rfl, rfl, Pu.refl _⟩
  case round =>
    obtain ⟨j, hj, rfl, rfl, hpu⟩ := hrel
    have htl := turnL_length k j h
    have hnx : turnL k (j+1) = nextL (turnL k j) := rfl
    obtain ⟨t, ht⟩ : ∃ t, t = turnL k j := ⟨_, rfl⟩
    rw [← ht] at htl hnx ⊢
    by_cases hlt : j < n
    · have hlt' : (j : Int) < n := by omega
      have hN := fun w => refExpand t ratchetW 32 htl (by decide) (by decide) (by decide) w
      obtain ⟨t2, ht2⟩ : ∃ t, t = turnL k (j+1) := ⟨_, rfl⟩
      rw [show expandL t ratchetW (32 : Int).toNat = t2 by rw [ht2, hnx]; rfl] at hN
      have HN := Lib.hid hN
      have HT2 := Lib.hid ht2
      clear hN ht ht2 hnx
      go_wp2_with (go_at_call 56; refine (HN.out _).mono ?_; rintro e w3 ⟨rfl, hp3⟩)
      go_roundw
      case rel => exact ⟨j + 1, by omega, by rw [HT2.out], by go_num, hpu.trans hp3⟩
      case measure => simp [intOf]; omega
    · obtain rfl : j = n := by omega
      have hlt' : decide ((j : Int) < j) = false := by simp
      have HT := Lib.hid ht
      clear ht hnx
      go_wp2_with fail
      go_ret
      exact ⟨by rw [← HT.out]; rfl, hpu⟩
end Go.Proofs.Ytdjbhbefghihcaa
