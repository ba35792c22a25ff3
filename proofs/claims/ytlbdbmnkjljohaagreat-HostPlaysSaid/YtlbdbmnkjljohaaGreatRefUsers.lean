/- The document's Users. -/
import Derived.Test.YtlbdbmnkjljohaaGreatTidy
set_option linter.unusedSimpArgs false
set_option linter.unusedVariables false
namespace Go.Proofs.YtlbdbmnkjljohaaGreat
open Go.RowKit Go.Esc
set_option maxRecDepth 100000 in
theorem refUserL (name secret : Bs) (hn : name.length ≤ 9223372036854775807) (w : World) :
    Calls Tryz.prog 14 #[.agg #[S name, S secret]] w fun e w' => e = .returned (.bool (userB name secret)) ∧ Pu w w' := by
  have hp0 := (Pu.refl w).alloc (.cells #[S name, S secret] 23)
  have hN := fun w => refName name (by omega) w
  unfold userB
  obtain ⟨o, ho⟩ : ∃ o, o = nameB name := ⟨_, rfl⟩
  rw [← ho] at hN ⊢
  have HN := Lib.hid hN
  clear hN ho
  by_cases h3 : secret.length = 32
  · have k3 : (secret.length : Int) = 32 := by omega
    rw [show decide (secret.length = 32) = true by simp [h3]]
    clear h3
    cases o with
    | true =>
      go_enter Tryz.func14, Tryz.ntmps14
      go_wp2_with (go_at_call 35; refine (HN.out _).mono ?_; rintro e w1 ⟨rfl, rfl⟩)
      go_ret
      exact ⟨rfl, hp0⟩
    | false =>
      go_enter Tryz.func14, Tryz.ntmps14
      go_wp2_with (go_at_call 35; refine (HN.out _).mono ?_; rintro e w1 ⟨rfl, rfl⟩)
      go_ret
      exact ⟨rfl, hp0⟩
  · have k3 : ((secret.length : Int) == 32) = false := by simp; omega
    rw [show decide (secret.length = 32) = false by simp [h3]]
    clear h3
    cases o with
    | true =>
      go_enter Tryz.func14, Tryz.ntmps14
      go_wp2_with (go_at_call 35; refine (HN.out _).mono ?_; rintro e w1 ⟨rfl, rfl⟩)
      go_ret
      exact ⟨rfl, hp0⟩
    | false =>
      go_enter Tryz.func14, Tryz.ntmps14
      go_wp2_with (go_at_call 35; refine (HN.out _).mono ?_; rintro e w1 ⟨rfl, rfl⟩)
      go_ret
      exact ⟨rfl, hp0⟩
theorem flatU_get : ∀ (zs : List (Bs × Bs)) (i : Nat) (hi : i < zs.length), (flatU zs)[i * 2]? = some (S (zs[i]).1)
  | x :: r, 0, _ => rfl
  | x :: r, i+1, hi => by
    have := flatU_get r i (by simpa using hi)
    rw [show (i + 1) * 2 = i * 2 + 1 + 1 by omega]
    simpa [flatU] using this
set_option maxRecDepth 100000 in
set_option maxHeartbeats 3200000 in
theorem refUsers {w : World} {a : Option Addr} {n cap : Nat} (zs : List (Bs × Bs)) (hn : n = zs.length) (h9 : n ≤ 100000) (ha : zs ≠ [] → ∃ g, a = some ⟨g, 0, none⟩ ∧ Row w g 23 (flatU zs)) (hz : ∀ x ∈ zs, x.1.length ≤ 9223372036854775807) :
    Calls Tryz.prog 27 #[.slice a n cap] w fun e w' => ∃ b, e = .returned (.bool b) ∧ (b = true ↔ goodUs zs ∧ zs.length ≤ 20) ∧ Pu w w' := by
  have hi2 : (Tryz.prog.info? 23).map (·.size) = some 2 := by kernel_rfl
  go_enter Tryz.func27, Tryz.ntmps27
  go_wp2_with fail
  go_loopw [3, 4] (fun x _ wr => ∃ i : Nat, i ≤ n ∧ x = .int .i64 (i : Int) ∧ (∀ j (hj : j < zs.length), j < i → userB (zs[j]).1 (zs[j]).2 = true) ∧ (∀ (k j : Nat) (hk : k < zs.length) (hj : j < zs.length), k < j → j < i → (zs[k]).1 ≠ (zs[j]).1) ∧ Pu w wr) (fun x _ _ => n - (intOf x).toNat)
  case atStart => exact ⟨0, Nat.zero_le _, rfl, fun j _ h => by omega, fun k j _ _ _ h => by omega, Pu.refl _⟩
  case round =>
    obtain ⟨i, hi, rfl, hv, hd, hp0⟩ := hrel
    by_cases hlt : i < n
    · have hi1 : (i : Int) < n := by omega
      have hi0 : (0 : Int) ≤ i := by omega
      have hzi : i < zs.length := by omega
      obtain ⟨g, rfl, hrow⟩ := ha (by intro e; rw [e] at hzi; simp at hzi)
      have hfa := flatU_at zs i hzi
      have hfl := flatU_length zs
      have hrw := hrow.pu hp0
      have hU := fun w => refUserL (zs[i]).1 (zs[i]).2 (hz _ (List.getElem_mem hzi)) w
      have hno : userB (zs[i]).1 (zs[i]).2 = false → ¬ (goodUs zs ∧ zs.length ≤ 20) := fun h h2 => by
        have := h2.1.1 _ (List.getElem_mem hzi)
        rw [h] at this; cases this
      have hnd : ∀ k (hk : k < zs.length), k < i → (zs[k]).1 = (zs[i]).1 → ¬ (goodUs zs ∧ zs.length ≤ 20) := fun k hk hki he h2 => h2.1.2 k i hk hzi hki he
      have hgi := flatU_get zs i hzi
      have hv2 : userB (zs[i]).1 (zs[i]).2 = true → ∀ j (hj : j < zs.length), j < i + 1 → userB (zs[j]).1 (zs[j]).2 = true := fun h j hj hji => by
        by_cases e : j < i
        · exact hv j hj e
        · obtain rfl : j = i := by omega
          exact h
      have hd2 : (∀ k (hk : k < zs.length), k < i → (zs[k]).1 ≠ (zs[i]).1) → ∀ (k j : Nat) (hk : k < zs.length) (hj : j < zs.length), k < j → j < i + 1 → (zs[k]).1 ≠ (zs[j]).1 := fun h k j hk hj hkj hji => by
        by_cases e : j < i
        · exact hd k j hk hj hkj e
        · obtain rfl : j = i := by omega
          exact h k hk hkj
      obtain ⟨nm, hnm⟩ : ∃ x, x = (zs[i]).1 := ⟨_, rfl⟩
      obtain ⟨sc, hsc⟩ : ∃ x, x = (zs[i]).2 := ⟨_, rfl⟩
      obtain ⟨ub, hub⟩ : ∃ x, x = userB (zs[i]).1 (zs[i]).2 := ⟨_, rfl⟩
      rw [← hub] at hno hv2
      rw [← hnm] at hgi hnd hd2
      rw [← hnm, ← hsc] at hfa
      have hU' : ∀ w, Calls Tryz.prog 14 #[.agg #[S nm, S sc]] w fun e w' => e = .returned (.bool ub) ∧ Pu w w' := by rw [hnm, hsc, hub]; exact hU
      have HU := Lib.hid hU'
      have HFA := Lib.hid hfa
      have HFL := Lib.hid hfl
      have HNO := Lib.hid hno
      have HND := Lib.hid hnd
      have HV := Lib.hid hv2
      have HD := Lib.hid hd2
      have HN := Lib.hid hn
      clear hU hU' hfa hfl hno hnd hv2 hd2 hv hd hnm hsc hub hn ha hrow
      cases ub with
      | false =>
        go_wp2_with (first
          | (refine wpList_load_part rfl 23 (.tmp 13) rfl g (i*2) 2 (by rfl) hrw Tryz.underlying23 rfl hi2 (by rw [HFL.out]; omega) ?_; rw [HFA.out])
          | (go_at_call 14; refine (HU.out _).mono ?_; rintro e w2 ⟨rfl, hp2⟩))
        go_ret
        exact ⟨_, rfl, ⟨fun h => (by cases h), fun h => absurd h (HNO.out (by first | rfl | trivial))⟩, hp0.trans hp2⟩
      | true =>
        go_wp2_with (first
          | (refine wpList_load_part rfl 23 (.tmp 13) rfl g (i*2) 2 (by rfl) hrw Tryz.underlying23 rfl hi2 (by rw [HFL.out]; omega) ?_; rw [HFA.out])
          | (go_at_call 14; refine (HU.out _).mono ?_; rintro e w2 ⟨rfl, hp2⟩))
        have hrw2 := hrw.pu hp2
        have hp02 := hp0.trans hp2
        clear hrw hp0 hp2
        go_loopw [4] (fun x wr2 => ∃ k : Nat, k ≤ i ∧ x = .int .i64 (k : Int) ∧ (∀ q (hq : q < zs.length), q < k → (zs[q]).1 ≠ nm) ∧ Pu w2 wr2) (fun x _ => i - (intOf x).toNat)
        case atStart => exact ⟨0, Nat.zero_le _, rfl, fun q _ h => by omega, Pu.refl _⟩
        case round =>
          obtain ⟨k, hk, rfl, hq, hp3⟩ := hrel
          rename World => wr2
          by_cases hki : k < i
          · have hk1 : (k : Int) < i := by omega
            have hk0 : (0 : Int) ≤ k := by omega
            have hk2 : (k : Int) < n := by omega
            have hkz : k < zs.length := by omega
            have hgk := flatU_get zs k hkz
            obtain ⟨nk, hnk⟩ : ∃ x, x = (zs[k]).1 := ⟨_, rfl⟩
            rw [← hnk] at hgk
            have hcl := fun w' (hp : Pu wr2 w') => ((hrw2.pu hp3).pu hp).cell' (k*2) (by rw [HFL.out]; omega)
            have hcl2 := fun w' (hp : Pu wr2 w') => ((hrw2.pu hp3).pu hp).cell' (i*2) (by rw [HFL.out]; omega)
            simp only [hgk, hgi] at hcl hcl2
            have HCL := Lib.hid hcl
            have HCL2 := Lib.hid hcl2
            have HNK := Lib.hid hnk
            clear hcl hcl2 hnk hgk
            by_cases hee : nk = nm
            · have hb1 : (nk == nm) = true := by simp [hee]
              have hb2 : bs nk = bs nm := by rw [hee]
              have HEE := Lib.hid hee
              clear hee
              go_wp2_with fail
              apply region_pu (Φs := (Is _ :: Is _ :: Is _ :: Is _ :: Is _ :: Is _ :: Is _ :: Is _ :: Is _ :: Is _ :: Is _ :: [])) (hm := by kernel_rfl) (hE := by kernel_rfl) (hD := by kernel_rfl) (hsize := by kernel_rfl)
              case hop =>
                refine ⟨?_, ?_, ?_, ?_, ?_, ?_, ?_, ?_, ?_, ?_, ?_, trivial⟩
                · intro a' w' hs hp he
                  have e0 := hs 0 (by kernel_rfl)
                  try simp [Is, Region.binds] at he
                  exact op_val rfl (wanted_none rfl) (by first | (go_simp; done) | (go_simp; rfl) | (simp [execOp, Act.eval, go_sem, *]; done) | (simp [execOp, Act.eval, go_sem, *]; rfl)) rfl (Pu.refl _)
                · intro a' w' hs hp he
                  have e4 := hs 4 (by kernel_rfl)
                  try simp [Is, Region.binds] at he
                  exact op_val rfl (wanted_none rfl) (by first | (go_simp; done) | (go_simp; rfl) | (simp [execOp, Act.eval, go_sem, *]; done) | (simp [execOp, Act.eval, go_sem, *]; rfl)) rfl (Pu.refl _)
                · intro a' w' hs hp he
                  try simp [Is, Region.binds] at he
                  exact op_val rfl (wanted_none rfl) (by first | (go_simp; done) | (go_simp; rfl) | (simp [execOp, Act.eval, go_sem, *]; done) | (simp [execOp, Act.eval, go_sem, *]; rfl)) rfl (Pu.refl _)
                · intro a' w' hs hp he
                  try simp [Is, Region.binds] at he
                  exact op_val rfl (wanted_none rfl) (by first | (go_simp; done) | (go_simp; rfl) | (simp [execOp, Act.eval, go_sem, *]; done) | (simp [execOp, Act.eval, go_sem, *]; rfl)) rfl (Pu.refl _)
                · intro a' w' hs hp he
                  try simp [Is, Region.binds] at he
                  have hc := HCL.out _ hp; exact op_val rfl (wanted_none rfl) (by first | (go_simp; done) | (go_simp; rfl)) rfl (Pu.refl _)
                · intro a' w' hs hp he
                  have e0 := hs 0 (by kernel_rfl)
                  try simp [Is, Region.binds] at he
                  exact op_val rfl (wanted_none rfl) (by first | (go_simp; done) | (go_simp; rfl) | (simp [execOp, Act.eval, go_sem, *]; done) | (simp [execOp, Act.eval, go_sem, *]; rfl)) rfl (Pu.refl _)
                · intro a' w' hs hp he
                  have e3 := hs 3 (by kernel_rfl)
                  try simp [Is, Region.binds] at he
                  exact op_val rfl (wanted_none rfl) (by first | (go_simp; done) | (go_simp; rfl) | (simp [execOp, Act.eval, go_sem, *]; done) | (simp [execOp, Act.eval, go_sem, *]; rfl)) rfl (Pu.refl _)
                · intro a' w' hs hp he
                  try simp [Is, Region.binds] at he
                  exact op_val rfl (wanted_none rfl) (by first | (go_simp; done) | (go_simp; rfl) | (simp [execOp, Act.eval, go_sem, *]; done) | (simp [execOp, Act.eval, go_sem, *]; rfl)) rfl (Pu.refl _)
                · intro a' w' hs hp he
                  try simp [Is, Region.binds] at he
                  exact op_val rfl (wanted_none rfl) (by first | (go_simp; done) | (go_simp; rfl) | (simp [execOp, Act.eval, go_sem, *]; done) | (simp [execOp, Act.eval, go_sem, *]; rfl)) rfl (Pu.refl _)
                · intro a' w' hs hp he
                  try simp [Is, Region.binds] at he
                  have hc := HCL2.out _ hp; exact op_val rfl (wanted_none rfl) (by first | (go_simp; done) | (go_simp; rfl)) rfl (Pu.refl _)
                · intro a' w' hs hp he
                  try simp [Is, Region.binds] at he
                  exact op_val rfl (wanted_none rfl) (by first | (go_simp; done) | (go_simp; rfl) | (simp [execOp, Act.eval, go_sem, *]; done) | (simp [execOp, Act.eval, go_sem, *]; rfl)) rfl (Pu.refl _)
              case hend =>
                intro a' w' hdef hsz hs hp hall
                obtain ⟨r0, r1, r2, r3, r4, r5, r6, r7, r8, r9, r10, -⟩ := hall
                have hA := agree_done (agree_step (agree_step (agree_step (agree_step (agree_step (agree_step (agree_step (agree_step (agree_step (agree_step (agree_step (agree_init [22, 23, 24, 25, 26, 27, 28, 29, 30, 31, 32] hsz hs (by kernel_rfl)) r0) r1) r2) r3) r4) r5) r6) r7) r8) r9) r10)
                have ha := act_of hA hdef
                rw [ha]
                clear ha hA hs hsz hdef r0 r1 r2 r3 r4 r5 r6 r7 r8 r9 r10 
                (try simp only [List.setIfInBounds_toArray])
                (try dsimp only [List.set_cons_zero, List.set_cons_succ])
                (try simp only [Exit.then])
                simp only [Option.isSome_some, if_true]
                go_wp2_with fail
                go_ret
                exact ⟨_, rfl, ⟨fun h => (by cases h), fun h => absurd h (HND.out k hkz hki (by rw [← HNK.out]; exact HEE.out))⟩, hp02.trans (hp3.trans hp)⟩
            · have hb1 : (nk == nm) = false := by simp [hee]
              have hb2 : ¬ bs nk = bs nm := fun h => hee (bs_inj h)
              have HEE := Lib.hid hee
              clear hee
              go_wp2_with fail
              apply region_pu (Φs := (Is _ :: Is _ :: Is _ :: Is _ :: Is _ :: Is _ :: Is _ :: Is _ :: Is _ :: Is _ :: Is _ :: [])) (hm := by kernel_rfl) (hE := by kernel_rfl) (hD := by kernel_rfl) (hsize := by kernel_rfl)
              case hop =>
                refine ⟨?_, ?_, ?_, ?_, ?_, ?_, ?_, ?_, ?_, ?_, ?_, trivial⟩
                · intro a' w' hs hp he
                  have e0 := hs 0 (by kernel_rfl)
                  try simp [Is, Region.binds] at he
                  exact op_val rfl (wanted_none rfl) (by first | (go_simp; done) | (go_simp; rfl) | (simp [execOp, Act.eval, go_sem, *]; done) | (simp [execOp, Act.eval, go_sem, *]; rfl)) rfl (Pu.refl _)
                · intro a' w' hs hp he
                  have e4 := hs 4 (by kernel_rfl)
                  try simp [Is, Region.binds] at he
                  exact op_val rfl (wanted_none rfl) (by first | (go_simp; done) | (go_simp; rfl) | (simp [execOp, Act.eval, go_sem, *]; done) | (simp [execOp, Act.eval, go_sem, *]; rfl)) rfl (Pu.refl _)
                · intro a' w' hs hp he
                  try simp [Is, Region.binds] at he
                  exact op_val rfl (wanted_none rfl) (by first | (go_simp; done) | (go_simp; rfl) | (simp [execOp, Act.eval, go_sem, *]; done) | (simp [execOp, Act.eval, go_sem, *]; rfl)) rfl (Pu.refl _)
                · intro a' w' hs hp he
                  try simp [Is, Region.binds] at he
                  exact op_val rfl (wanted_none rfl) (by first | (go_simp; done) | (go_simp; rfl) | (simp [execOp, Act.eval, go_sem, *]; done) | (simp [execOp, Act.eval, go_sem, *]; rfl)) rfl (Pu.refl _)
                · intro a' w' hs hp he
                  try simp [Is, Region.binds] at he
                  have hc := HCL.out _ hp; exact op_val rfl (wanted_none rfl) (by first | (go_simp; done) | (go_simp; rfl)) rfl (Pu.refl _)
                · intro a' w' hs hp he
                  have e0 := hs 0 (by kernel_rfl)
                  try simp [Is, Region.binds] at he
                  exact op_val rfl (wanted_none rfl) (by first | (go_simp; done) | (go_simp; rfl) | (simp [execOp, Act.eval, go_sem, *]; done) | (simp [execOp, Act.eval, go_sem, *]; rfl)) rfl (Pu.refl _)
                · intro a' w' hs hp he
                  have e3 := hs 3 (by kernel_rfl)
                  try simp [Is, Region.binds] at he
                  exact op_val rfl (wanted_none rfl) (by first | (go_simp; done) | (go_simp; rfl) | (simp [execOp, Act.eval, go_sem, *]; done) | (simp [execOp, Act.eval, go_sem, *]; rfl)) rfl (Pu.refl _)
                · intro a' w' hs hp he
                  try simp [Is, Region.binds] at he
                  exact op_val rfl (wanted_none rfl) (by first | (go_simp; done) | (go_simp; rfl) | (simp [execOp, Act.eval, go_sem, *]; done) | (simp [execOp, Act.eval, go_sem, *]; rfl)) rfl (Pu.refl _)
                · intro a' w' hs hp he
                  try simp [Is, Region.binds] at he
                  exact op_val rfl (wanted_none rfl) (by first | (go_simp; done) | (go_simp; rfl) | (simp [execOp, Act.eval, go_sem, *]; done) | (simp [execOp, Act.eval, go_sem, *]; rfl)) rfl (Pu.refl _)
                · intro a' w' hs hp he
                  try simp [Is, Region.binds] at he
                  have hc := HCL2.out _ hp; exact op_val rfl (wanted_none rfl) (by first | (go_simp; done) | (go_simp; rfl)) rfl (Pu.refl _)
                · intro a' w' hs hp he
                  try simp [Is, Region.binds] at he
                  exact op_val rfl (wanted_none rfl) (by first | (go_simp; done) | (go_simp; rfl) | (simp [execOp, Act.eval, go_sem, *]; done) | (simp [execOp, Act.eval, go_sem, *]; rfl)) rfl (Pu.refl _)
              case hend =>
                intro a' w' hdef hsz hs hp hall
                obtain ⟨r0, r1, r2, r3, r4, r5, r6, r7, r8, r9, r10, -⟩ := hall
                have hA := agree_done (agree_step (agree_step (agree_step (agree_step (agree_step (agree_step (agree_step (agree_step (agree_step (agree_step (agree_step (agree_init [22, 23, 24, 25, 26, 27, 28, 29, 30, 31, 32] hsz hs (by kernel_rfl)) r0) r1) r2) r3) r4) r5) r6) r7) r8) r9) r10)
                have ha := act_of hA hdef
                rw [ha]
                clear ha hA hs hsz hdef r0 r1 r2 r3 r4 r5 r6 r7 r8 r9 r10 
                (try simp only [List.setIfInBounds_toArray])
                (try dsimp only [List.set_cons_zero, List.set_cons_succ])
                (try simp only [Exit.then])
                simp only [Option.isSome_some, if_true]
                go_wp2_with fail
                go_roundw
                case rel =>
                  refine ⟨k + 1, by omega, by go_num, fun q hq9 hqk => ?_, hp3.trans hp⟩
                  by_cases e : q < k
                  · exact hq q hq9 e
                  · obtain rfl : q = k := by omega
                    rw [← HNK.out]; exact HEE.out
                case measure => simp [intOf]; omega
          · obtain rfl : k = i := by omega
            have hlt' : decide ((k : Int) < k) = false := by simp
            go_wp2_with fail
            go_roundw
            case rel => exact ⟨k + 1, by omega, by go_num, HV.out (by first | rfl | trivial), HD.out (fun q hq9 hqi => hq q hq9 hqi), hp02.trans hp3⟩
            case measure => simp [intOf]; omega
    · obtain rfl : i = n := by omega
      have hlt' : decide ((i : Int) < i) = false := by simp
      go_wp2_with fail
      go_ret
      refine ⟨_, rfl, ?_, hp0⟩
      rw [decide_eq_true_iff]
      constructor
      · intro h
        refine ⟨⟨fun x hx => ?_, fun k j hk hj hkj => hd k j hk hj hkj (by omega)⟩, by omega⟩
        obtain ⟨j, hj, rfl⟩ := List.mem_iff_getElem.1 hx
        exact hv j hj (by omega)
      · rintro ⟨_, h⟩
        omega
end Go.Proofs.YtlbdbmnkjljohaaGreat
