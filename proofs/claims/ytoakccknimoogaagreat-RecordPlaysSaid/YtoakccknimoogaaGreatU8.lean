/- The document's Size, Pad, Unpad. The document's records. The document's In: the place of a number. The document's In: a record comes that is none, or comes too late, or is not of the key. A law for regions that draw their order, of whose operations two append to one list, that is new, and the last comes behind all others. Records in whatever order, in plain Lean. -/
import Derived.Test.YtoakccknimoogaaGreatU7
import Derived.Maps.AppendAt
import Derived.Laws.AppendOwnNone
set_option linter.unusedSimpArgs false
set_option linter.unusedVariables false
set_option linter.unusedSimpArgs false
set_option linter.unusedVariables false
namespace Go.Proofs.YtoakccknimoogaaGreat
open Go.RowKit Go.Esc
set_option maxHeartbeats 400000 in
theorem refZeros' (n : Nat) (hn : n ≤ 1000000) (w : World) :
 Calls Tryz.prog 77 #[.int .i64 (n : Int)] w fun e w' => e = .returned (S (List.replicate n 0)) ∧ Pu w w' := by
 obtain ⟨i0, hi, hz0, hz1, hz2⟩ := info_parts infoB
 go_enter Tryz.func77, Tryz.ntmps77
 go_wp2_with (at_make; refine wpList_make_full _ rfl _ _ 51 rfl w.heap.size 5 i0 (.int .u8 0) 1 Tryz.underlying51 hi hz0 hz1 _ _ _ _ n rfl rfl rfl rfl (by rw [hz2]; omega) (by unfold maxLen; omega) (Nat.le_refl _) ?_; intro w1 hown hgrow; rw [madeZ] at hown; have hcv := own_conv (P := Tryz.prog) 51 9 hown Tryz.underlying51 Tryz.underlying5 Tryz.underlying9)
 go_ret
 exact ⟨rfl, (Below.refl _ _).grown hgrow (Nat.le_refl _) (by simp)⟩
theorem refBig' (l : List UInt8) (w : World) (hl : l.length ≤ 8) :
 Calls Tryz.prog 35 #[S l] w fun e w' => e = .returned (.int .u64 (beN l)) ∧ Pu w w' := by
 refine (refBig l w hl).mono ?_
 rintro e w' ⟨rfl, rfl⟩
 exact ⟨rfl, Below.refl _ _⟩
set_option maxHeartbeats 800000 in
theorem refSize (n : Int) (w : World) :
 Calls Tryz.prog 76 #[.int .i64 n] w fun e w' => e = .returned (.tuple #[.int .i64 (((padSize n).getD 0 : Nat) : Int), .bool (padSize n).isSome]) ∧ Pu w w' := by
 go_enter Tryz.func76, Tryz.ntmps76
 have hb : Pu w (w.alloc (.cells #[.int .i64 32, .int .i64 128, .int .i64 512, .int .i64 2048] 3)) := ((Below.refl _ _).alloc (Nat.le_refl _) _)
 go_wp2_with fail
 go_loop [5] (fun i => ∃ k : Nat, k ≤ 4 ∧ i = .int .i64 k ∧ (n < 0 ∨ padLow k ≤ n)) (fun i => 4 - (intOf i).toNat)
 case atStart => exact ⟨0, by omega, rfl, by simp [padLow]; omega⟩
 case round =>
  obtain ⟨k, hk, rfl, hlo⟩ := hrel
  have hk5 : k = 0 ∨ k = 1 ∨ k = 2 ∨ k = 3 ∨ k = 4 := by omega
  rcases hk5 with rfl | rfl | rfl | rfl | rfl
  · simp only [padLow] at hlo
    by_cases hin : 0 ≤ n ∧ n ≤ 30
    · obtain ⟨h0, h1⟩ := hin
      go_wp2_with fail
      go_ret2
      have hs := padSize_32 (n := n) (by omega) (by omega)
      exact ⟨by rw [hs]; rfl, hb⟩
    · by_cases h0 : 0 ≤ n
      · have h1 : 30 < n := by omega
        go_wp2_with fail
        go_round
        case rel => exact ⟨1, by omega, by go_num, by simp [padLow]; omega⟩
        case measure => simp [intOf]
      · have h1 : n < 0 := by omega
        have h2 : decide (0 ≤ n) = false := by simp; omega
        go_wp2_with fail
        go_round
        case rel => exact ⟨1, by omega, by go_num, by left; omega⟩
        case measure => simp [intOf]
  · simp only [padLow] at hlo
    by_cases hin : 0 ≤ n ∧ n ≤ 126
    · obtain ⟨h0, h1⟩ := hin
      go_wp2_with fail
      go_ret2
      have hs := padSize_128 (n := n) (by omega) (by omega)
      exact ⟨by rw [hs]; rfl, hb⟩
    · by_cases h0 : 0 ≤ n
      · have h1 : 126 < n := by omega
        go_wp2_with fail
        go_round
        case rel => exact ⟨2, by omega, by go_num, by simp [padLow]; omega⟩
        case measure => simp [intOf]
      · have h1 : n < 0 := by omega
        have h2 : decide (0 ≤ n) = false := by simp; omega
        go_wp2_with fail
        go_round
        case rel => exact ⟨2, by omega, by go_num, by left; omega⟩
        case measure => simp [intOf]
  · simp only [padLow] at hlo
    by_cases hin : 0 ≤ n ∧ n ≤ 510
    · obtain ⟨h0, h1⟩ := hin
      go_wp2_with fail
      go_ret2
      have hs := padSize_512 (n := n) (by omega) (by omega)
      exact ⟨by rw [hs]; rfl, hb⟩
    · by_cases h0 : 0 ≤ n
      · have h1 : 510 < n := by omega
        go_wp2_with fail
        go_round
        case rel => exact ⟨3, by omega, by go_num, by simp [padLow]; omega⟩
        case measure => simp [intOf]
      · have h1 : n < 0 := by omega
        have h2 : decide (0 ≤ n) = false := by simp; omega
        go_wp2_with fail
        go_round
        case rel => exact ⟨3, by omega, by go_num, by left; omega⟩
        case measure => simp [intOf]
  · simp only [padLow] at hlo
    by_cases hin : 0 ≤ n ∧ n ≤ 2046
    · obtain ⟨h0, h1⟩ := hin
      go_wp2_with fail
      go_ret2
      have hs := padSize_2048 (n := n) (by omega) (by omega)
      exact ⟨by rw [hs]; rfl, hb⟩
    · by_cases h0 : 0 ≤ n
      · have h1 : 2046 < n := by omega
        go_wp2_with fail
        go_round
        case rel => exact ⟨4, by omega, by go_num, by simp [padLow]; omega⟩
        case measure => simp [intOf]
      · have h1 : n < 0 := by omega
        have h2 : decide (0 ≤ n) = false := by simp; omega
        go_wp2_with fail
        go_round
        case rel => exact ⟨4, by omega, by go_num, by left; omega⟩
        case measure => simp [intOf]
  · simp only [padLow] at hlo
    go_wp2_with fail
    go_ret2
    have hs := padSize_none (n := n) (by omega)
    exact ⟨by rw [hs]; rfl, hb⟩
set_option maxHeartbeats 800000 in
set_option maxRecDepth 100000 in
theorem refPad (b : List UInt8) (w : World) (hb : b.length ≤ 1000000) :
 Calls Tryz.prog 25 #[S b] w fun e w' => e = .returned (.tuple #[S ((padL b).getD []), .bool (padL b).isSome]) ∧ Pu w w' := by
 cases hs : padSize (b.length : Int) with
 | none =>
   have hp : padL b = none := by simp [padL, hs]
   have HP := Lib.hid hp
   have hz := refSize (b.length : Int)
   rw [hs] at hz
   have HZ := Lib.hid hz
   clear hp hz hs
   go_enter Tryz.func25, Tryz.ntmps25
   go_wp2_with (go_at_call 76; refine (HZ.out _).mono ?_; rintro e w1 ⟨rfl, hb1⟩)
   go_ret2
   exact ⟨by rw [HP.out]; rfl, hb1⟩
 | some s =>
   have hp : padL b = some (putB b.length 2 ++ b ++ List.replicate (s - 2 - b.length) 0) := by simp [padL, hs]
   have HP := Lib.hid hp
   have hz := refSize (b.length : Int)
   obtain ⟨h1, h2⟩ := padSize_some hs
   rw [hs] at hz
   have HZ := Lib.hid hz
   clear hp hz hs
   obtain ⟨z, hzz⟩ : ∃ z, z = s - 2 - b.length := ⟨_, rfl⟩
   have hz0 := fun w => refZeros' z (by omega) w
   have HZ0 := Lib.hid hz0
   have zz1 : (s : Int) - 2 - b.length = z := by omega
   have zz2 : IntKind.i64.wrap ((s : Int) - 2) = (s : Int) - 2 := by rw [IntKind.wrap_i64]; omega
   have zz3 : IntKind.i64.wrap (z : Int) = z := by rw [IntKind.wrap_i64]; omega
   have HZZ := Lib.hid hzz
   clear hz0 hzz
   have hpl : (putB b.length 2).length ≤ 2 := by rw [putB_length]; omega
   go_enter Tryz.func25, Tryz.ntmps25
   go_wp2_with (first | (go_at_call 76; refine (HZ.out _).mono ?_; rintro e w1 ⟨rfl, hb1⟩) | (go_at_call 26; refine (refPutBig _ _ _ (by omega) (by omega) (by omega) (by omega)).mono ?_; rintro e w2 ⟨rfl, hb2⟩) | (go_at_call 77; refine (HZ0.out _).mono ?_; rintro e w3 ⟨rfl, hb3⟩))
   go_ret2
   refine ⟨?_, (hb1.trans hb2).trans hb3⟩
   rw [HP.out, ← HZZ.out]
   rfl
set_option maxHeartbeats 800000 in
set_option maxRecDepth 100000 in
theorem refUnpad (b : List UInt8) (w : World) (hb : b.length ≤ 1000000) :
 Calls Tryz.prog 90 #[S b] w fun e w' => e = .returned (.tuple #[S ((unpadL b).getD []), .bool (unpadL b).isSome]) ∧ Pu w w' := by
 by_cases h2 : b.length < 2
 · have hp : unpadL b = none := by simp [unpadL, h2]
   have HP := Lib.hid hp
   clear hp
   go_enter Tryz.func90, Tryz.ntmps90
   go_wp2_with fail
   go_ret2
   exact ⟨by rw [HP.out]; rfl, Below.refl _ _⟩
 · have hB : beN (b.take 2) < 65536 := by have := beN_lt (b.take 2); simp at this; rw [Nat.min_eq_left (by omega)] at this; omega
   obtain ⟨n, hn⟩ : ∃ n, n = beN (b.take 2) := ⟨_, rfl⟩
   have hbig := refBig' (b.take 2)
   rw [← hn] at hbig hB
   have HB := Lib.hid hbig
   clear hbig
   by_cases hlt : b.length - 2 < n
   · have hp : unpadL b = none := by simp [unpadL, h2, ← hn, hlt]
     have HP := Lib.hid hp
     clear hp hn
     have hlt' : (b.length : Int) - 2 < n := by omega
     go_enter Tryz.func90, Tryz.ntmps90
     go_wp2_with (go_at_call 35; refine (HB.out _ (by simp; omega)).mono ?_; rintro e w1 ⟨rfl, hb1⟩)
     go_ret2
     exact ⟨by rw [HP.out]; rfl, hb1⟩
   · have hle : (n : Int) ≤ (b.length : Int) - 2 := by omega
     have hs1 : (2:Int) ≤ 2 + (n:Int) := by omega
     have hs2 : 2 + (n:Int) ≤ (b.length:Int) := by omega
     obtain ⟨o, ho⟩ : ∃ o, o = (b.take (2 + n)).drop 2 := ⟨_, rfl⟩
     have hu : unpadL b = if padL o = some b then some o else none := by
      rw [unpadL, if_neg h2]; simp only [← hn, if_neg hlt, ← ho]
     have hol : o.length ≤ b.length := by rw [ho]; simp; omega
     have hpad := fun w => refPad o w (by omega)
     have HO := Lib.hid ho
     clear ho hn
     cases hpo : padL o with
     | none =>
       rw [hpo] at hpad
       have hp : unpadL b = none := by rw [hu, hpo]; simp
       have HP := Lib.hid hp
       have HD := Lib.hid hpad
       clear hp hpad hu hpo
       go_enter Tryz.func90, Tryz.ntmps90
       go_wp2_with (first | (go_at_call 35; refine (HB.out _ (by simp; omega)).mono ?_; rintro e w1 ⟨rfl, hb1⟩) | (go_at_call 25; rw [← HO.out]; refine (HD.out _).mono ?_; rintro e w2 ⟨rfl, hb2⟩))
       go_ret2
       exact ⟨by rw [HP.out]; rfl, hb1.trans hb2⟩
     | some q =>
       rw [hpo] at hpad
       have HD := Lib.hid hpad
       by_cases hq : q = b
       · have hp : unpadL b = some o := by rw [hu, hpo, hq]; simp
         have HP := Lib.hid hp
         have hqb : (q == b) = true := by simpa using hq
         clear hp hpad hu hpo hq
         go_enter Tryz.func90, Tryz.ntmps90
         go_wp2_with (first | (go_at_call 35; refine (HB.out _ (by simp; omega)).mono ?_; rintro e w1 ⟨rfl, hb1⟩) | (go_at_call 25; rw [← HO.out]; refine (HD.out _).mono ?_; rintro e w2 ⟨rfl, hb2⟩))
         go_ret2
         exact ⟨by rw [HP.out]; exact congrArg (fun l => Ending.returned (.tuple #[S l, .bool true])) HO.out.symm, hb1.trans hb2⟩
       · have hp : unpadL b = none := by rw [hu, hpo]; simp [hq]
         have HP := Lib.hid hp
         have hqb : (q == b) = false := by simpa using hq
         clear hp hpad hu hpo hq
         go_enter Tryz.func90, Tryz.ntmps90
         go_wp2_with (first | (go_at_call 35; refine (HB.out _ (by simp; omega)).mono ?_; rintro e w1 ⟨rfl, hb1⟩) | (go_at_call 25; rw [← HO.out]; refine (HD.out _).mono ?_; rintro e w2 ⟨rfl, hb2⟩))
         go_ret2
         exact ⟨by rw [HP.out]; rfl, hb1.trans hb2⟩
end Go.Proofs.YtoakccknimoogaaGreat
set_option linter.unusedSimpArgs false
set_option linter.unusedVariables false
namespace Go.Proofs.YtoakccknimoogaaGreat
open Go.RowKit Go.Esc
theorem openR_len' (k n b h : Bs) : (openR k n b h).1.length ≤ b.length := by
 unfold openR
 split
 · simp only [streamL_length, List.length_take]; omega
 · simp
/-- What the document says of a record's bytes. -/
def unrecR (key b : Bs) : Nat × Bs × Nat := if badForm b then (0, [], 2) else match plainL key (beN (b.take 8)) b with
 | none => (beN (b.take 8), [], 3)
 | some t => (beN (b.take 8), t, 0)
def trip (r : Nat × Bs × Nat) : Value := .tuple #[.int .i64 (r.1 : Int), S r.2.1, .int .i64 (r.2.2 : Int)]
set_option maxRecDepth 100000 in
set_option maxHeartbeats 1600000 in
theorem refUnrecord (key b : Bs) (hk : key.length = 32) (hb2 : b.length ≤ 90000) (w : World) :
 Calls Tryz.prog 37 #[S key, S b] w fun e w' => e = .returned (trip (unrecR key b)) ∧ Pu w w' := by
 by_cases h24 : b.length < 24
 · have k1 : (b.length : Int) < 24 := by omega
   have e9 : unrecR key b = (0, [], 2) := by unfold unrecR; rw [if_pos (.inl h24)]
   rw [e9]
   go_enter Tryz.func37, Tryz.ntmps37
   go_wp2_with fail
   go_ret3
   exact ⟨rfl, Pu.refl _⟩
 · have k1 : ¬ (b.length : Int) < 24 := by omega
   have k3 : (8 : Int) ≤ b.length := by omega
   have hB := fun w => refBig' (b.take 8) w (by simp; omega)
   have hun : ¬ badForm b → unrecR key b = match plainL key (beN (b.take 8)) b with
    | none => (beN (b.take 8), [], 3)
    | some t => (beN (b.take 8), t, 0) := fun h => by unfold unrecR; rw [if_neg h]
   obtain ⟨q, hq⟩ : ∃ v, v = beN (b.take 8) := ⟨_, rfl⟩
   rw [← hq] at hB hun
   by_cases h400 : 400 ≤ q
   · have k2 : (400 : Int) ≤ q := by omega
     have e9 : unrecR key b = (0, [], 2) := by unfold unrecR; rw [if_pos (.inr (by rw [← hq]; exact h400))]
     rw [e9]
     have HB := Lib.hid hB
     clear hB hun hq e9
     go_enter Tryz.func37, Tryz.ntmps37
     go_wp2_with (go_at_call 35; refine (HB.out _).mono ?_; rintro e w1 ⟨rfl, hp1⟩)
     go_ret3
     exact ⟨rfl, hp1⟩
   · have k2 : ¬ (400 : Int) ≤ q := by omega
     have k4 : (q : Int) < 400 := by omega
     have hun2 := hun (by unfold badForm; rw [← hq]; omega)
     have hT := fun w => refTurn key (q / 8) (by omega) (by omega) w
     have hN := fun w => refNonce q (by omega) w
     have hO := fun w => refUnbox (turnL key (q / 8)) (nonceL q) (b.drop 8) (b.take 8) (by simp; omega) (by simp; omega) w
     have hU := fun w => refUnpad (openR (turnL key (q / 8)) (nonceL q) (b.drop 8) (b.take 8)).1 w (by have := openR_len' (turnL key (q / 8)) (nonceL q) (b.drop 8) (b.take 8); simp at this; omega)
     have hpl : plainL key q b = if (openR (turnL key (q / 8)) (nonceL q) (b.drop 8) (b.take 8)).2 then unpadL (openR (turnL key (q / 8)) (nonceL q) (b.drop 8) (b.take 8)).1 else none := rfl
     have h8 : (q : Int).tdiv 8 = ((q / 8 : Nat) : Int) := by rw [Int.tdiv_eq_ediv_of_nonneg (by omega)]; omega
     obtain ⟨e8, he8⟩ : ∃ e8, e8 = q / 8 := ⟨_, rfl⟩
     rw [← he8] at hT hO hU hpl h8
     obtain ⟨k, hkk⟩ : ∃ k, k = turnL key e8 := ⟨_, rfl⟩
     obtain ⟨no, hno⟩ : ∃ no, no = nonceL q := ⟨_, rfl⟩
     rw [← hkk] at hT
     rw [← hno] at hN
     rw [← hkk, ← hno] at hO hU hpl
     obtain ⟨r, hr⟩ : ∃ r, r = openR k no (b.drop 8) (b.take 8) := ⟨_, rfl⟩
     rw [← hr] at hO hU hpl
     obtain ⟨r1, r2⟩ := r
     simp only [rb] at hO
     simp only at hU hpl
     have HB := Lib.hid hB
     have HN := Lib.hid hN
     have HO := Lib.hid hO
     have HU := Lib.hid hU
     have HT := Lib.hid hT
     have cT : ∀ args w, (callFunc 28 args).run Tryz.prog w = .ok (.enter 28 args) w := fun args w => run_callFunc_body Tryz.func28 (by kernel_rfl) (by kernel_rfl) args w
     have cN : ∀ args w, (callFunc 29 args).run Tryz.prog w = .ok (.enter 29 args) w := fun args w => run_callFunc_body Tryz.func29 (by kernel_rfl) (by kernel_rfl) args w
     have cO : ∀ args w, (callFunc 89 args).run Tryz.prog w = .ok (.enter 89 args) w := fun args w => run_callFunc_body Tryz.func89 (by kernel_rfl) (by kernel_rfl) args w
     have hdl : (8 : Int) ≤ b.length := k3
     have h88 : IntKind.i64.wrap (e8 : Int) = e8 := by rw [IntKind.wrap_i64]; omega
     have T1 := Lib.hid True.intro
     clear hB hN hO hT hkk hno hr hun he8 hq
     obtain ⟨R, hRR⟩ : ∃ R, R = unrecR key b := ⟨_, rfl⟩
     rw [← hRR] at hun2 ⊢
     clear hRR
     cases r2 with
     | false =>
       have e1 : plainL key q b = none := by simpa using hpl
       rw [e1] at hun2
       simp only at hun2
       subst hun2
       clear e1 hpl hU
       · skip
         go_enter Tryz.func37, Tryz.ntmps37
         go_wp2_with (first
          | (go_at_call 35; clear T1; refine (HB.out _).mono ?_; rintro e w1 ⟨rfl, hp1⟩)
          | (go_at_call 35; refine (HB.out _).mono ?_; rintro e w2 ⟨rfl, hp2⟩))
         apply region_pu (Φs := (Is _ :: Is _ :: Is _ :: Is _ :: Is _ :: Is _ :: Is _ :: Is _ :: Is _ :: Is _ :: Is _ :: Is _ :: Is _ :: Is _ :: Is _ :: Is _ :: [])) (hm := by kernel_rfl) (hE := by kernel_rfl) (hD := by kernel_rfl) (hsize := by kernel_rfl)
         case hop =>
          refine ⟨?_, ?_, ?_, ?_, ?_, ?_, ?_, ?_, ?_, ?_, ?_, ?_, ?_, ?_, ?_, ?_, trivial⟩
          · intro a' w' hs hp he
            have e0 := hs 0 (by kernel_rfl)
            try simp [Is, Region.binds] at he
            exact op_v
          · intro a' w' hs hp he
            have e7 := hs 7 (by kernel_rfl)
            try simp [Is, Region.binds] at he
            exact op_v
          · intro a' w' hs hp he
            try simp [Is, Region.binds] at he
            exact op_v
          · intro a' w' hs hp he
            try simp [Is, Region.binds] at he
            exact op_callP (HT.out _) rfl (wanted_none rfl) (by first | (go_simp; done) | (go_simp; rfl)) (fun _ => rfl)
          · intro a' w' hs hp he
            have e7 := hs 7 (by kernel_rfl)
            try simp [Is, Region.binds] at he
            exact op_v
          · intro a' w' hs hp he
            try simp [Is, Region.binds] at he
            exact op_callP (HN.out _) rfl (wanted_none rfl) (by first | (go_simp; done) | (go_simp; rfl)) (fun _ => rfl)
          · intro a' w' hs hp he
            have e1 := hs 1 (by kernel_rfl)
            try simp [Is, Region.binds] at he
            exact op_v
          · intro a' w' hs hp he
            try simp [Is, Region.binds] at he
            exact op_v
          · intro a' w' hs hp he
            have e1 := hs 1 (by kernel_rfl)
            try simp [Is, Region.binds] at he
            exact op_v
          · intro a' w' hs hp he
            try simp [Is, Region.binds] at he
            exact op_v
          · intro a' w' hs hp he
            try simp [Is, Region.binds] at he
            exact op_callP (HO.out _) rfl (wanted_none rfl) (by first | (go_simp; done) | (go_simp; rfl)) (fun _ => rfl)
          · intro a' w' hs hp he
            try simp [Is, Region.binds] at he
            exact op_v
          · intro a' w' hs hp he
            try simp [Is, Region.binds] at he
            exact op_v
          · intro a' w' hs hp he
            try simp [Is, Region.binds] at he
            exact op_v
          · intro a' w' hs hp he
            try simp [Is, Region.binds] at he
            exact op_v
          · intro a' w' hs hp he
            try simp [Is, Region.binds] at he
            exact op_v
         case hend =>
          intro a' w' hdef hsz hs hp hall
          obtain ⟨r0, r1, r2, r3, r4, r5, r6, r7, r8, r9, r10, r11, r12, r13, r14, r15, -⟩ := hall
          have hA := agree_done (agree_step (agree_step (agree_step (agree_step (agree_step (agree_step (agree_step (agree_step (agree_step (agree_step (agree_step (agree_step (agree_step (agree_step (agree_step (agree_step (agree_init [26, 27, 28, 29, 30, 31, 32, 33, 34, 35, 36, 25, 37, 38, 8, 9] hsz hs (by kernel_rfl)) r0) r1) r2) r3) r4) r5) r6) r7) r8) r9) r10) r11) r12) r13) r14) r15)
          have ha := act_of hA hdef
          rw [ha]
          clear ha hA hs hsz hdef r0 r1 r2 r3 r4 r5 r6 r7 r8 r9 r10 r11 r12 r13 r14 r15 
          (try simp only [List.setIfInBounds_toArray])
          (try dsimp only [List.set_cons_zero, List.set_cons_succ])
          (try simp only [Exit.then])
          have hp3 := (hp1.trans hp2).trans hp
          clear hp
          go_wp2_with (go_at_call 90; refine (HU.out _).mono ?_; rintro e3 w3 ⟨rfl, hp4⟩; replace hp3 := hp3.trans hp4)
          go_ret3
          exact ⟨rfl, hp3⟩
     | true =>
       have e1 : plainL key q b = unpadL r1 := by simpa using hpl
       rw [e1] at hun2
       clear e1 hpl
       cases hu : unpadL r1 with
       | none =>
         rw [hu] at hun2 HU
         simp only at hun2
         subst hun2
         clear hu hU
         go_enter Tryz.func37, Tryz.ntmps37
         go_wp2_with (first
          | (go_at_call 35; clear T1; refine (HB.out _).mono ?_; rintro e w1 ⟨rfl, hp1⟩)
          | (go_at_call 35; refine (HB.out _).mono ?_; rintro e w2 ⟨rfl, hp2⟩))
         apply region_pu (Φs := (Is _ :: Is _ :: Is _ :: Is _ :: Is _ :: Is _ :: Is _ :: Is _ :: Is _ :: Is _ :: Is _ :: Is _ :: Is _ :: Is _ :: Is _ :: Is _ :: [])) (hm := by kernel_rfl) (hE := by kernel_rfl) (hD := by kernel_rfl) (hsize := by kernel_rfl)
         case hop =>
          refine ⟨?_, ?_, ?_, ?_, ?_, ?_, ?_, ?_, ?_, ?_, ?_, ?_, ?_, ?_, ?_, ?_, trivial⟩
          · intro a' w' hs hp he
            have e0 := hs 0 (by kernel_rfl)
            try simp [Is, Region.binds] at he
            exact op_v
          · intro a' w' hs hp he
            have e7 := hs 7 (by kernel_rfl)
            try simp [Is, Region.binds] at he
            exact op_v
          · intro a' w' hs hp he
            try simp [Is, Region.binds] at he
            exact op_v
          · intro a' w' hs hp he
            try simp [Is, Region.binds] at he
            exact op_callP (HT.out _) rfl (wanted_none rfl) (by first | (go_simp; done) | (go_simp; rfl)) (fun _ => rfl)
          · intro a' w' hs hp he
            have e7 := hs 7 (by kernel_rfl)
            try simp [Is, Region.binds] at he
            exact op_v
          · intro a' w' hs hp he
            try simp [Is, Region.binds] at he
            exact op_callP (HN.out _) rfl (wanted_none rfl) (by first | (go_simp; done) | (go_simp; rfl)) (fun _ => rfl)
          · intro a' w' hs hp he
            have e1 := hs 1 (by kernel_rfl)
            try simp [Is, Region.binds] at he
            exact op_v
          · intro a' w' hs hp he
            try simp [Is, Region.binds] at he
            exact op_v
          · intro a' w' hs hp he
            have e1 := hs 1 (by kernel_rfl)
            try simp [Is, Region.binds] at he
            exact op_v
          · intro a' w' hs hp he
            try simp [Is, Region.binds] at he
            exact op_v
          · intro a' w' hs hp he
            try simp [Is, Region.binds] at he
            exact op_callP (HO.out _) rfl (wanted_none rfl) (by first | (go_simp; done) | (go_simp; rfl)) (fun _ => rfl)
          · intro a' w' hs hp he
            try simp [Is, Region.binds] at he
            exact op_v
          · intro a' w' hs hp he
            try simp [Is, Region.binds] at he
            exact op_v
          · intro a' w' hs hp he
            try simp [Is, Region.binds] at he
            exact op_v
          · intro a' w' hs hp he
            try simp [Is, Region.binds] at he
            exact op_v
          · intro a' w' hs hp he
            try simp [Is, Region.binds] at he
            exact op_v
         case hend =>
          intro a' w' hdef hsz hs hp hall
          obtain ⟨r0, r1, r2, r3, r4, r5, r6, r7, r8, r9, r10, r11, r12, r13, r14, r15, -⟩ := hall
          have hA := agree_done (agree_step (agree_step (agree_step (agree_step (agree_step (agree_step (agree_step (agree_step (agree_step (agree_step (agree_step (agree_step (agree_step (agree_step (agree_step (agree_step (agree_init [26, 27, 28, 29, 30, 31, 32, 33, 34, 35, 36, 25, 37, 38, 8, 9] hsz hs (by kernel_rfl)) r0) r1) r2) r3) r4) r5) r6) r7) r8) r9) r10) r11) r12) r13) r14) r15)
          have ha := act_of hA hdef
          rw [ha]
          clear ha hA hs hsz hdef r0 r1 r2 r3 r4 r5 r6 r7 r8 r9 r10 r11 r12 r13 r14 r15 
          (try simp only [List.setIfInBounds_toArray])
          (try dsimp only [List.set_cons_zero, List.set_cons_succ])
          (try simp only [Exit.then])
          have hp3 := (hp1.trans hp2).trans hp
          clear hp
          go_wp2_with (go_at_call 90; refine (HU.out _).mono ?_; rintro e3 w3 ⟨rfl, hp4⟩; replace hp3 := hp3.trans hp4)
          go_ret3
          exact ⟨rfl, hp3⟩
       | some tx =>
         rw [hu] at hun2 HU
         simp only at hun2
         subst hun2
         clear hu hU
         go_enter Tryz.func37, Tryz.ntmps37
         go_wp2_with (first
          | (go_at_call 35; clear T1; refine (HB.out _).mono ?_; rintro e w1 ⟨rfl, hp1⟩)
          | (go_at_call 35; refine (HB.out _).mono ?_; rintro e w2 ⟨rfl, hp2⟩))
         apply region_pu (Φs := (Is _ :: Is _ :: Is _ :: Is _ :: Is _ :: Is _ :: Is _ :: Is _ :: Is _ :: Is _ :: Is _ :: Is _ :: Is _ :: Is _ :: Is _ :: Is _ :: [])) (hm := by kernel_rfl) (hE := by kernel_rfl) (hD := by kernel_rfl) (hsize := by kernel_rfl)
         case hop =>
          refine ⟨?_, ?_, ?_, ?_, ?_, ?_, ?_, ?_, ?_, ?_, ?_, ?_, ?_, ?_, ?_, ?_, trivial⟩
          · intro a' w' hs hp he
            have e0 := hs 0 (by kernel_rfl)
            try simp [Is, Region.binds] at he
            exact op_v
          · intro a' w' hs hp he
            have e7 := hs 7 (by kernel_rfl)
            try simp [Is, Region.binds] at he
            exact op_v
          · intro a' w' hs hp he
            try simp [Is, Region.binds] at he
            exact op_v
          · intro a' w' hs hp he
            try simp [Is, Region.binds] at he
            exact op_callP (HT.out _) rfl (wanted_none rfl) (by first | (go_simp; done) | (go_simp; rfl)) (fun _ => rfl)
          · intro a' w' hs hp he
            have e7 := hs 7 (by kernel_rfl)
            try simp [Is, Region.binds] at he
            exact op_v
          · intro a' w' hs hp he
            try simp [Is, Region.binds] at he
            exact op_callP (HN.out _) rfl (wanted_none rfl) (by first | (go_simp; done) | (go_simp; rfl)) (fun _ => rfl)
          · intro a' w' hs hp he
            have e1 := hs 1 (by kernel_rfl)
            try simp [Is, Region.binds] at he
            exact op_v
          · intro a' w' hs hp he
            try simp [Is, Region.binds] at he
            exact op_v
          · intro a' w' hs hp he
            have e1 := hs 1 (by kernel_rfl)
            try simp [Is, Region.binds] at he
            exact op_v
          · intro a' w' hs hp he
            try simp [Is, Region.binds] at he
            exact op_v
          · intro a' w' hs hp he
            try simp [Is, Region.binds] at he
            exact op_callP (HO.out _) rfl (wanted_none rfl) (by first | (go_simp; done) | (go_simp; rfl)) (fun _ => rfl)
          · intro a' w' hs hp he
            try simp [Is, Region.binds] at he
            exact op_v
          · intro a' w' hs hp he
            try simp [Is, Region.binds] at he
            exact op_v
          · intro a' w' hs hp he
            try simp [Is, Region.binds] at he
            exact op_v
          · intro a' w' hs hp he
            try simp [Is, Region.binds] at he
            exact op_v
          · intro a' w' hs hp he
            try simp [Is, Region.binds] at he
            exact op_v
         case hend =>
          intro a' w' hdef hsz hs hp hall
          obtain ⟨r0, r1, r2, r3, r4, r5, r6, r7, r8, r9, r10, r11, r12, r13, r14, r15, -⟩ := hall
          have hA := agree_done (agree_step (agree_step (agree_step (agree_step (agree_step (agree_step (agree_step (agree_step (agree_step (agree_step (agree_step (agree_step (agree_step (agree_step (agree_step (agree_step (agree_init [26, 27, 28, 29, 30, 31, 32, 33, 34, 35, 36, 25, 37, 38, 8, 9] hsz hs (by kernel_rfl)) r0) r1) r2) r3) r4) r5) r6) r7) r8) r9) r10) r11) r12) r13) r14) r15)
          have ha := act_of hA hdef
          rw [ha]
          clear ha hA hs hsz hdef r0 r1 r2 r3 r4 r5 r6 r7 r8 r9 r10 r11 r12 r13 r14 r15 
          (try simp only [List.setIfInBounds_toArray])
          (try dsimp only [List.set_cons_zero, List.set_cons_succ])
          (try simp only [Exit.then])
          have hp3 := (hp1.trans hp2).trans hp
          clear hp
          go_wp2_with (go_at_call 90; refine (HU.out _).mono ?_; rintro e3 w3 ⟨rfl, hp4⟩; replace hp3 := hp3.trans hp4)
          go_ret3
          exact ⟨rfl, hp3⟩
end Go.Proofs.YtoakccknimoogaaGreat
set_option linter.unusedSimpArgs false
set_option linter.unusedVariables false
namespace Go.Proofs.YtoakccknimoogaaGreat
open Go.RowKit Go.Esc
set_option maxRecDepth 100000 in
theorem refInAt {w : World} {ir : Nat} {a b d : Value} {vq : Value} {B : Nat} (l : List (Nat × Bs)) (n : Nat) (hn : n = l.length) (hr : Row w ir 33 [a, b, vq, d]) (ho : w.ownsRow B 3 1 vq n (seqV l)) (hm : n ≤ 100000) (q : Nat) :
 Calls Tryz.prog 36 #[.pointer (some ⟨ir, 0, none⟩), .int .i64 (q : Int)] w fun e w' => e = .returned (.int .i64 (posV l q)) ∧ w' = w := by
 subst hn
 have c2 := hr.cell 2 (by simp)
 simp at c2
 have H1 := Lib.hid ho
 obtain ⟨a1, q1, rfl, -⟩ := own_slice ho
 clear ho hr
 go_enter Tryz.func36, Tryz.ntmps36
 go_wp2_with fail
 go_loopw [5] (fun i wr => ∃ k : Nat, k ≤ l.length ∧ i = .int .i64 k ∧ (∀ j (hj : j < l.length), j < k → (l[j]).1 ≠ q) ∧ wr = w) (fun i _ => l.length - (intOf i).toNat)
 case atStart => exact ⟨0, Nat.zero_le _, rfl, fun j _ h => by omega, rfl⟩
 case round =>
  obtain ⟨k, hk, rfl, hno, rfl⟩ := hrel
  by_cases hlt : k < l.length
  · have hk1 : (k : Int) < l.length := by omega
    have hk0 : (0 : Int) ≤ k := by omega
    obtain ⟨g1, c1', e1, -⟩ := own_form H1.out (by omega)
    cases e1
    obtain ⟨x, hx⟩ : ∃ x, x = (l[k]).1 := ⟨_, rfl⟩
    have hc : wr.cell? ⟨g1, k, none⟩ = some (.int .i64 (x : Int)) := by
     rw [H1.out.cellAt k (by omega)]
     simp [seqV, List.getElem?_eq_getElem hlt, hx]
    by_cases hxq : x = q
    · subst hxq
      have hp := posV_at hlt (fun j hj => hno j (by omega) hj) hx.symm
      have HP := Lib.hid hp
      clear hp hno hx
      go_wp2_with fail
      go_ret
      exact ⟨by rw [HP.out]; rfl, rfl⟩
    · have hne : ((x : Int) == (q : Int)) = false := by simp; omega
      have hno2 : ∀ j (hj : j < l.length), j < k + 1 → (l[j]).1 ≠ q := fun j hj h => by
       rcases Nat.lt_succ_iff_lt_or_eq.1 h with h1 | h1
       · exact hno j hj h1
       · subst h1; rw [← hx]; exact hxq
      have HNO := Lib.hid hno2
      clear hno2 hno hx
      go_wp2_with fail
      go_roundw
      case rel => exact ⟨k + 1, by omega, by go_num, HNO.out, trivial⟩
      case measure => simp [intOf]; omega
  · obtain rfl : k = l.length := by omega
    have hlt' : decide ((l.length : Int) < l.length) = false := by simp
    have hp := posV_no (l := l) (q := q) fun j hj => hno j hj hj
    have HP := Lib.hid hp
    clear hp hno
    go_wp2_with fail
    go_ret
    exact ⟨by rw [HP.out]; rfl, rfl⟩
end Go.Proofs.YtoakccknimoogaaGreat
set_option linter.unusedSimpArgs false
set_option linter.unusedVariables false
namespace Go.Proofs.YtoakccknimoogaaGreat
open Go.RowKit Go.Esc
structure RefP (G : Nat → Prop) (B : Nat) (w : World) (ir : Nat) (key : Bs) (n : Nat) (l : List (Nat × Bs)) (vq vt : Value) : Prop where
 row : Row w ir 33 [S key, .int .i64 (n : Int), vq, vt]
 oq : w.ownsRow B 3 1 vq l.length (seqV l)
 ot : w.ownsRow B 9 1 vt l.length (txtV l)
 gi : G ir
 gq : ∀ g, vq.ownBlock = some g → G g
 gt : ∀ g, vt.ownBlock = some g → G g
 nq : vq.ownBlock ≠ some ir
 nt : vt.ownBlock ≠ some ir
 dom : ∀ g, G g → g < w.heap.size
 low : ∀ g, G g → B ≤ g
def RefAt (G : Nat → Prop) (B : Nat) (w : World) (ir : Nat) (key : Bs) (s : InS) : Prop := ∃ l vq vt, RefP G B w ir key s.n l vq vt ∧ Lk l s.f ∧ l.length = s.c
theorem own_cgB {G : Nat → Prop} {w w' : World} {B e n : Nat} {v : Value} {xs : List Value} (h : w.ownsRow B e 1 v n xs) (hp : Cg G w w') (hne : ∀ g, v.ownBlock = some g → ¬ G g) : w'.ownsRow B e 1 v n xs := by
 refine ⟨h.1, ?_⟩
 rcases h.2 with h0 | ⟨g, cap, cur, hv, hg, hc, rest⟩
 · exact .inl h0
 · refine .inr ⟨g, cap, cur, hv, hg, ?_, rest⟩
   rw [hp.block g (Array.getElem?_eq_some_iff.1 hc).1 (hne g (by rw [hv]; rfl))]
   exact hc
theorem RefP.cg {G H : Nat → Prop} {B : Nat} {w w' : World} {ir : Nat} {key : Bs} {n : Nat} {l : List (Nat × Bs)} {vq vt : Value} (h : RefP G B w ir key n l vq vt) (hp : Cg H w w') (hH : ∀ g, H g → ¬ G g) : RefP G B w' ir key n l vq vt :=
 ⟨hp.row h.row (fun e => hH _ e h.gi), own_cgB h.oq hp (fun g hg hh => hH g hh (h.gq g hg)), own_cgB h.ot hp (fun g hg hh => hH g hh (h.gt g hg)), h.gi, h.gq, h.gt, h.nq, h.nt, fun g hg => Nat.lt_of_lt_of_le (h.dom g hg) hp.size, h.low⟩
theorem RefP.pu {G : Nat → Prop} {B : Nat} {w w' : World} {ir : Nat} {key : Bs} {n : Nat} {l : List (Nat × Bs)} {vq vt : Value} (h : RefP G B w ir key n l vq vt) (hp : Pu w w') : RefP G B w' ir key n l vq vt := h.cg (H := fun _ => False) (Cg.ofPu hp) (fun _ h => h.elim)
theorem RefAt.cg {G H : Nat → Prop} {B : Nat} {w w' : World} {ir : Nat} {key : Bs} {s : InS} (h : RefAt G B w ir key s) (hp : Cg H w w') (hH : ∀ g, H g → ¬ G g) : RefAt G B w' ir key s := by
 obtain ⟨l, vq, vt, h1, h2, h3⟩ := h
 exact ⟨l, vq, vt, h1.cg hp hH, h2, h3⟩
theorem RefP.wide {G G' : Nat → Prop} {B : Nat} {w : World} {ir : Nat} {key : Bs} {n : Nat} {l : List (Nat × Bs)} {vq vt : Value} (h : RefP G B w ir key n l vq vt) (hG : ∀ g, G g → G' g) (hd : ∀ g, G' g → g < w.heap.size) (hl : ∀ g, G' g → B ≤ g) : RefP G' B w ir key n l vq vt :=
 ⟨h.row, h.oq, h.ot, hG _ h.gi, fun g hg => hG g (h.gq g hg), fun g hg => hG g (h.gt g hg), h.nq, h.nt, hd, hl⟩
/-- What Open leaves. -/
def RefR (G : Nat → Prop) (B : Nat) (w w' : World) (ir : Nat) (key : Bs) (r : Nat × List Bs × InS) (v : Value) : Prop :=
 w'.ownsRow w.heap.size 9 1 v r.2.1.length (r.2.1.map S) ∧ RefAt (Gw G w w') B w' ir key r.2.2 ∧ Cg (fun g => g = ir) w w'
theorem RefR.same {G : Nat → Prop} {B : Nat} {w w' : World} {ir : Nat} {key : Bs} {s : InS} {e : Nat} {l : List (Nat × Bs)} {vq vt : Value} (h : RefP G B w ir key s.n l vq vt) (hk : Lk l s.f) (hc : l.length = s.c) (hB : B ≤ w.heap.size) (hp : Pu w w') : RefR G B w w' ir key (e, [], s) (.slice none 0 0) :=
 ⟨World.ownsRow_nil _ _ _ _, ⟨l, vq, vt, (h.pu hp).wide (fun g hg => .inl hg) (Gw.dom h.dom hp.size) (fun g hg => by rcases hg with h1 | h1; exact h.low g h1; omega), hk, hc⟩, Cg.ofPu hp⟩
theorem RefP.cells {G : Nat → Prop} {B : Nat} {w : World} {ir : Nat} {key : Bs} {n : Nat} {l : List (Nat × Bs)} {vq vt : Value} (h : RefP G B w ir key n l vq vt) : w.cell? ⟨ir, 0, none⟩ = some (S key) ∧ w.cell? ⟨ir, 1, none⟩ = some (.int .i64 (n : Int)) ∧ w.cell? ⟨ir, 2, none⟩ = some vq ∧ w.cell? ⟨ir, 3, none⟩ = some vt := by
 refine ⟨?_, ?_, ?_, ?_⟩
 · have := h.row.cell 0 (by simp); simpa using this
 · have := h.row.cell 1 (by simp); simpa using this
 · have := h.row.cell 2 (by simp); simpa using this
 · have := h.row.cell 3 (by simp); simpa using this
set_option maxRecDepth 100000 in
set_option maxHeartbeats 1600000 in
theorem refOpenNo {G : Nat → Prop} {B : Nat} {w : World} {ir : Nat} {key : Bs} {s : InS} (h : RefAt G B w ir key s) (hB : B ≤ w.heap.size) (hs : s.Ok) (hc : s.c ≤ 90000) (hk : key.length = 32) (b : Bs) (hb : b.length ≤ 90000)
 (hno : badForm b ∨ beN (b.take 8) < s.n ∨ s.n + 64 ≤ beN (b.take 8) ∨ (s.f (beN (b.take 8))).isSome = true ∨ plainL key (beN (b.take 8)) b = none) :
 Calls Tryz.prog 13 #[.pointer (some ⟨ir, 0, none⟩), S b] w fun e w' => ∃ v, e = .returned (.tuple #[v, .int .i64 ((openS key s b).1 : Int)]) ∧ RefR G B w w' ir key (openS key s b) v := by
 obtain ⟨l, vq, vt, hr, hl, hlc⟩ := h
 by_cases h24 : b.length < 24
 · have k1 : (b.length : Int) < 24 := by omega
   have e9 : openS key s b = (2, [], s) := by unfold openS; rw [if_pos (.inl h24)]
   rw [e9]
   have HR := Lib.hid hr
   have HL := Lib.hid hl
   clear hno e9 hs hr hl
   go_enter Tryz.func13, Tryz.ntmps13
   go_wp2_with fail
   go_ret2
   exact ⟨_, rfl, RefR.same HR.out HL.out hlc hB (Pu.refl _)⟩
 have k1 : ¬ (b.length : Int) < 24 := by omega
 have k3 : (8 : Int) ≤ b.length := by omega
 have hBg := fun w => refBig' (b.take 8) w (by simp; omega)
 have hbf : ¬ badForm b ↔ ¬ 400 ≤ beN (b.take 8) := by unfold badForm; omega
 have hop : ¬ badForm b → openS key s b = if beN (b.take 8) < s.n ∨ s.n + 64 ≤ beN (b.take 8) ∨ (s.f (beN (b.take 8))).isSome = true then (4, [], s) else match plainL key (beN (b.take 8)) b with
  | none => (3, [], s)
  | some t => (0, runF (updF s.f (beN (b.take 8)) (some t)) s.n 1000, ⟨s.n + (runF (updF s.f (beN (b.take 8)) (some t)) s.n 1000).length, cutF (updF s.f (beN (b.take 8)) (some t)) (s.n + (runF (updF s.f (beN (b.take 8)) (some t)) s.n 1000).length), s.c + 1 - (runF (updF s.f (beN (b.take 8)) (some t)) s.n 1000).length⟩) := fun h => by
  unfold openS; rw [if_neg h]; dsimp only
  cases plainL key (beN (b.take 8)) b <;> rfl
 have hbad : badForm b → openS key s b = (2, [], s) := fun h => by unfold openS; rw [if_pos h]
 have hun : ¬ badForm b → unrecR key b = match plainL key (beN (b.take 8)) b with
  | none => (beN (b.take 8), [], 3)
  | some t => (beN (b.take 8), t, 0) := fun h => by unfold unrecR; rw [if_neg h]; first | done | (cases plainL key (beN (b.take 8)) b <;> rfl)
 obtain ⟨q, hq⟩ : ∃ v, v = beN (b.take 8) := ⟨_, rfl⟩
 rw [← hq] at hBg hbf hop hno hun
 have HB := Lib.hid hBg
 have hA := fun w' (hp : Pu w w') => refInAt l l.length rfl (hr.row.pu hp) (hr.pu hp).oq (by omega) q
 have HA := Lib.hid hA
 have hC := fun w' (hp : Pu w w') => (hr.pu hp).cells
 have HC := Lib.hid hC
 have HR := Lib.hid hr
 have HL := Lib.hid hl
 have T1 := Lib.hid True.intro
 clear hBg hA hC hq hr
 by_cases h400 : 400 ≤ q
 · have k2 : (400 : Int) ≤ q := by omega
   have e9 := hbad (by rw [← Decidable.not_not (p := badForm b), hbf]; omega)
   rw [e9]
   have HU := Lib.hid True.intro
   have HPOS := Lib.hid True.intro
   clear hno e9 hs hl hbad hop hun hbf
   go_enter Tryz.func13, Tryz.ntmps13
   go_wp2_with (go_at_call 35; refine (HB.out _).mono ?_; rintro e w1 ⟨rfl, hp1⟩)
   go_ret2
   exact ⟨_, rfl, RefR.same HR.out HL.out hlc hB hp1⟩
 have k2 : ¬ (400 : Int) ≤ q := by omega
 have k4 : (q : Int) < 400 := by omega
 have hform := hbf.2 h400
 have hop2 := hop hform
 have hun2 := hun hform
 have hwq : IntKind.i64.wrap (q : Int) = q := by rw [IntKind.wrap_i64]; omega
 have hn := hs.n
 clear hbf hbad hop hun
 by_cases h1 : q < s.n
 · have k5 : (q : Int) < s.n := by omega
   rw [if_pos (.inl h1)] at hop2
   rw [hop2]
   have HU := Lib.hid True.intro
   have HPOS := Lib.hid True.intro
   clear hno hs hl hop2 hun2
   go_enter Tryz.func13, Tryz.ntmps13
   go_wp2_with (first
    | (go_at_call 35; clear T1; refine (HB.out _).mono ?_; rintro e w1 ⟨rfl, hp1⟩)
    | (go_at_call 35; refine (HB.out _).mono ?_; rintro e w2 ⟨rfl, hp2⟩; have hp12 := hp1.trans hp2; obtain ⟨c0, c1, c2, c3⟩ := HC.out _ hp12))
   go_ret2
   exact ⟨_, rfl, RefR.same HR.out HL.out hlc hB hp12⟩
 have k5 : ¬ (q : Int) < s.n := by omega
 have k6 : IntKind.i64.wrap ((s.n : Int) + 64) = s.n + 64 := by rw [IntKind.wrap_i64]; omega
 by_cases h2 : s.n + 64 ≤ q
 · have k7 : (s.n : Int) + 64 ≤ q := by omega
   rw [if_pos (.inr (.inl h2))] at hop2
   rw [hop2]
   have HU := Lib.hid True.intro
   have HPOS := Lib.hid True.intro
   clear hno hs hl hop2 hun2
   go_enter Tryz.func13, Tryz.ntmps13
   go_wp2_with (first
    | (go_at_call 35; clear T1; refine (HB.out _).mono ?_; rintro e w1 ⟨rfl, hp1⟩)
    | (go_at_call 35; refine (HB.out _).mono ?_; rintro e w2 ⟨rfl, hp2⟩; have hp12 := hp1.trans hp2; obtain ⟨c0, c1, c2, c3⟩ := HC.out _ hp12))
   go_ret2
   exact ⟨_, rfl, RefR.same HR.out HL.out hlc hB hp12⟩
 have k7 : ¬ (s.n : Int) + 64 ≤ q := by omega
 cases hf : s.f q with
 | some t =>
   rw [if_pos (.inr (.inr (by rw [hf]; rfl)))] at hop2
   rw [hop2]
   obtain ⟨i, hi, hpos, -⟩ := hl.some_pos hf
   have HPOS := Lib.hid hpos
   have k8 : (0 : Int) ≤ i := by omega
   clear hno hs hl hop2 hun2 hf hpos
   go_enter Tryz.func13, Tryz.ntmps13
   go_wp2_with (first
    | (go_at_call 35; clear T1; refine (HB.out _).mono ?_; rintro e w1 ⟨rfl, hp1⟩)
    | (go_at_call 35; refine (HB.out _).mono ?_; rintro e w2 ⟨rfl, hp2⟩; have hp12 := hp1.trans hp2; obtain ⟨c0, c1, c2, c3⟩ := HC.out _ hp12)
    | (go_at_call 36; refine (HA.out _ hp12).mono ?_; rw [HPOS.out]; rintro e w3 ⟨rfl, rfl⟩))
   go_ret2
   exact ⟨_, rfl, RefR.same HR.out HL.out hlc hB hp12⟩
 | none =>
   have hpl : plainL key q b = none := by
    rcases hno with h | h | h | h | h
    · exact absurd h hform
    · exact absurd h h1
    · exact absurd h h2
    · rw [hf] at h; cases h
    · exact h
   rw [if_neg (by rw [hf]; rintro (h | h | h); exact h1 h; exact h2 h; cases h), hpl] at hop2
   simp only at hop2
   rw [hop2]
   rw [hpl] at hun2
   simp only at hun2
   have hU := fun w => refUnrecord key b hk hb w
   rw [hun2] at hU
   have HU := Lib.hid hU
   have HPOS := Lib.hid (hl.none_pos hf)
   clear hno hs hl hop2 hun2 hf hpl hU hform
   go_enter Tryz.func13, Tryz.ntmps13
   go_wp2_with (first
    | (go_at_call 35; clear T1; refine (HB.out _).mono ?_; rintro e w1 ⟨rfl, hp1⟩)
    | (go_at_call 35; refine (HB.out _).mono ?_; rintro e w2 ⟨rfl, hp2⟩; have hp12 := hp1.trans hp2; obtain ⟨c0, c1, c2, c3⟩ := HC.out _ hp12)
    | (go_at_call 36; refine (HA.out _ hp12).mono ?_; rw [HPOS.out]; rintro e w3 ⟨rfl, rfl⟩)
    | (go_at_call 37; refine (HU.out _).mono ?_; simp only [trip]; rintro e w4 ⟨rfl, hp4⟩))
   go_ret2
   exact ⟨_, rfl, RefR.same HR.out HL.out hlc hB (hp12.trans hp4)⟩
end Go.Proofs.YtoakccknimoogaaGreat
namespace Go.Esc
open Go Go.RowKit
/-- Only operation m awaits operation b (of those but the last). -/
def onlyM (ops : Array Oper) (b m : Nat) : Bool := (List.range ops.size).all fun i => Nat.ble m i || ((ops[i]?).map fun o => o.after.toList.all fun e => !(Region.binds .any e) || !(e.on == b)).getD true
theorem onlyM_at {ops : Array Oper} {b m i : Nat} (h : onlyM ops b m = true) (hi : i < ops.size) {o : Oper} (ho : ops[i]? = some o) {e : _} (he : e ∈ o.after.toList) (hb : Region.binds .any e = true) (heb : e.on = b) : m ≤ i := by
 simp only [onlyM, List.all_eq_true, List.mem_range, Bool.or_eq_true] at h
 rcases h i hi with h1 | h1
 · exact Nat.le_of_ble_eq_true h1
 · rw [ho] at h1
   simp only [Option.map_some, Option.getD_some, List.all_eq_true, Bool.or_eq_true] at h1
   rcases h1 e he with h2 | h2
   · rw [hb] at h2; cases h2
   · simp [heb] at h2
/-- What does not speak of the memory. -/
def FreeΦ (Φ : Value → World → Prop) : Prop := ∀ v w w', Φ v w → Φ v w'
def AllFree (b m : Nat) : Nat → List (Value → World → Prop) → Prop
 | _, [] => True
 | k, Φ :: l => ((k != b && k != m) = true → FreeΦ Φ) ∧ AllFree b m (k+1) l
theorem AllFree.get {b m : Nat} : ∀ {l : List (Value → World → Prop)} {k : Nat}, AllFree b m k l → ∀ i Φ, l[i]? = some Φ → (k + i != b && k + i != m) = true → FreeΦ Φ
 | [], _, _, i, Φ, h, _ => by simp at h
 | Ψ :: l, k, hf, 0, Φ, h, hc => by
   simp at h
   subst h
   exact hf.1 (by simpa using hc)
 | Ψ :: l, k, hf, i+1, Φ, h, hc => AllFree.get hf.2 i Φ (by simpa using h) (by rw [show k + 1 + i = k + (i + 1) by omega]; exact hc)
theorem free_is (v : Value) : FreeΦ (Is v) := fun _ _ _ h => h
theorem gone (Φs : List (Value → World → Prop)) {k b : Nat} (h : k = b) (v : Value) (w : World) : (Φs.set b Any).getD k Any v w := by
 subst h
 by_cases hl9 : k < Φs.length
 · rw [List.getD, List.getElem?_set_self hl9]; trivial
 · rw [List.getD, List.getElem?_eq_none (by simp; omega)]; trivial
section
variable {P : Program} {ops : Array Oper} {Q : Exit → Act → World → Prop}
/-- What is asked of an operation; that of number m may change what is new. -/
def OpOkD (P : Program) (ops : Array Oper) (Q : Exit → Act → World → Prop) (b m n : Nat) (Φs : List (Value → World → Prop)) (a : Act) (w : World) (i : Nat) (o : Oper) : Prop :=
 ∀ (a' : Act) (w' : World), (∀ t : Nat, isDstL (ops.toList.take n) t = false → a'.tmps[t]?.getD undef = a.tmps[t]?.getD undef) → Pu w w' →
   (∀ e ∈ o.after.toList, Region.binds .any e = true → (bif decide (i ≤ m) then Φs else Φs.set b Any).getD e.on Any (match (ops[e.on]?).bind (·.dst) with | some d => a'.tmps[d]?.getD undef | none => undef) w') →
   wpOp P ops Q i (fun a'' w'' => ∃ v, a'' = a'.put o.dst v ∧ Φs.getD i Any (if o.dst.isSome then v else undef) w'' ∧ (bif Nat.beq i m then Below w.heap.size w' w'' else Pu w' w'')) a' w'
theorem region_two (id : Nat) (b m : Nat) (Φs : List (Value → World → Prop)) {a : Act} {w : World} (n : Nat) (ol : Oper) (hn : ops.size = n + 1) (hlast : ops[n]? = some ol)
 (hm : P.follows .mixedOrders = true) (hE : edgesBack ops = true) (hD : dstsApart ops = true) (hU : usedAll ops = true)
 (hbm : b < m) (hBr : onlyM ops b m = true) [hΦ : AllStable Φs] (hfree : AllFree b m 0 Φs)
 (hsize : (ops.toList.all fun o => match o.dst with | some d => decide (d < a.tmps.size) | none => true) = true)
 (hop : AllOps (OpOkD P ops Q b m n Φs a w) 0 (ops.toList.take n))
 (hend : ∀ (a' : Act) (w' : World), a'.defers = a.defers → a'.tmps.size = a.tmps.size → (∀ t : Nat, isDstL (ops.toList.take n) t = false → a'.tmps[t]?.getD undef = a.tmps[t]?.getD undef) → Pu w w' →
   AllOps (fun j oj => (Φs.set b Any).getD j Any (match oj.dst with | some d => a'.tmps[d]?.getD undef | none => undef) w') 0 (ops.toList.take n) → wpOp P ops Q n (fun a'' w'' => Q .normal a'' w'') a' w') :
 (Code.region id ops true).wp P Q a w := by
 refine wp_region_any hm ?_
 have hkeep : ∀ (i : Nat) (v : Value) (w w' : World), Φs.getD i Any v w → Pu w w' → Φs.getD i Any v w' := by
  intro i v w w' h hp
  by_cases hi : i < Φs.length
  · have e : Φs.getD i Any = Φs[i] := by simp [List.getD, List.getElem?_eq_getElem hi]
    rw [e] at h ⊢
    exact hΦ.keep _ (List.getElem_mem hi) _ _ _ h hp
  · have e : Φs.getD i Any = Any := by simp [List.getD, List.getElem?_eq_none (by omega : Φs.length ≤ i)]
    rw [e]; trivial
 have hkeepB : ∀ (i : Nat), i ≠ m → i ≠ b → ∀ (v : Value) (w w' : World), Φs.getD i Any v w → Φs.getD i Any v w' := by
  intro i him hib v w w' h
  by_cases hi : i < Φs.length
  · have e : Φs.getD i Any = Φs[i] := by simp [List.getD, List.getElem?_eq_getElem hi]
    rw [e] at h ⊢
    have := hfree.get i Φs[i] (List.getElem?_eq_getElem hi)
    rw [Nat.zero_add] at this
    exact this (by simp [him, hib]) _ _ _ h
  · have e : Φs.getD i Any = Any := by simp [List.getD, List.getElem?_eq_none (by omega : Φs.length ≤ i)]
    rw [e]; trivial
 let slot : Act → Option Tmp → Value := fun a' d => match d with | some d => a'.tmps[d]?.getD undef | none => undef
 let Inv : Array Bool → Act → World → Prop := fun listed a' w' => listed.size = ops.size ∧
  ((listed[n]? = some false ∧ Closed ops listed ∧ a'.defers = a.defers ∧ a'.tmps.size = a.tmps.size ∧
    (∀ t : Nat, isDstL (ops.toList.take n) t = false → a'.tmps[t]?.getD undef = a.tmps[t]?.getD undef) ∧ Pu w w' ∧
    ∀ (j : Nat) (oj : Oper), ops[j]? = some oj → listed[j]? = some true → (j ≠ b ∨ listed[m]? = some false) → Φs.getD j Any (slot a' oj.dst) w') ∨
   ((∀ i, i < ops.size → listed[i]? = some true) ∧ Q .normal a' w'))
 refine wpAny_inv .any Inv ?_ ?_ (fun _ _ _ h => h.1) ops.size _ a _ ?_ ?_
 · intro listed a' w' ⟨h1, h⟩ i hi
   simp only [Region.ready, List.mem_filter, List.mem_range, Bool.and_eq_true, Bool.not_eq_true'] at hi
   obtain ⟨hi1, hi2, hi3⟩ := hi
   have ho : ops[i]? = some ops[i] := Array.getElem?_eq_getElem hi1
   have hlt : i < listed.size := by omega
   have hif : listed[i]? = some false := by
    simp [Array.getD_eq_getD_getElem?, Array.getElem?_eq_getElem hlt] at hi2
    rw [Array.getElem?_eq_getElem hlt, hi2]
   have hi4 : ∀ e ∈ ops[i].after.toList, Region.binds .any e = true → listed[e.on]? = some true := by
    intro e he hb
    rw [ho] at hi3
    simp only [Option.map_some, Option.getD_some, Array.all_eq_true_iff_forall_mem] at hi3
    have h7 := hi3 e (by simpa using he)
    simp only [hb, Bool.not_true, Bool.false_or] at h7
    cases hq : listed[e.on]? with
    | none => simp [Array.getD_eq_getD_getElem?, hq] at h7
    | some x => simp [Array.getD_eq_getD_getElem?, hq] at h7; rw [h7]
   rcases h with ⟨hnf, hcl, h2, h3, h4, h5, h6⟩ | ⟨hall, hQ⟩
   · by_cases hin : i = n
     · subst hin
       have hall := all_listed hU listed i hn hcl ops[i] ho hi4
       refine wpOp_mono ?_ (hend a' w' h2 h3 h4 h5 (AllOps.mk' _ _ fun j o hj => ?_))
       · intro a'' w'' hQ
         refine ⟨by simp [h1], .inr ⟨fun j hj => ?_, hQ⟩⟩
         by_cases hji : i = j
         · subst hji; rw [Array.getElem?_setIfInBounds_self, if_pos hlt]
         · rw [Array.getElem?_setIfInBounds_ne hji]; exact hall _ j (by omega) rfl
       · rw [Nat.zero_add]
         rw [List.getElem?_take] at hj
         split at hj
         · next hji =>
           by_cases hjb : j = b
           · subst hjb
             by_cases hl9 : j < Φs.length
             · rw [List.getD, List.getElem?_set_self hl9]; trivial
             · rw [List.getD, List.getElem?_eq_none (by simp; omega)]; trivial
           · have := h6 j o (by simpa using hj) (hall _ j hji rfl) (.inl hjb)
             rw [List.getD, List.getElem?_set_ne (fun e => hjb e.symm)]
             exact this
         · cases hj
     · have hk := hop.get i ops[i] (by rw [List.getElem?_take, if_pos (by omega)]; simp)
       rw [Nat.zero_add] at hk
       have hk2 := hk a' w' h4 h5 (fun e hm hb => by
        have h8 := hi4 e hm hb
        have hlt2 : e.on < ops.size := by
         have := (Array.getElem?_eq_some_iff.1 h8).1; omega
        rw [Array.getElem?_eq_getElem hlt2]
        by_cases heb : e.on = b
        · have hmi : m ≤ i := onlyM_at hBr (by omega) ho hm hb heb
          by_cases him : i = m
          · have h9 := h6 e.on ops[e.on] (Array.getElem?_eq_getElem hlt2) h8 (.inr (by rw [← him]; exact hif))
            rw [show decide (i ≤ m) = true from decide_eq_true (by omega)]
            exact h9
          · rw [show decide (i ≤ m) = false from decide_eq_false (by omega)]
            exact gone Φs heb _ _
        · have h9 := h6 e.on ops[e.on] (Array.getElem?_eq_getElem hlt2) h8 (.inl heb)
          cases decide (i ≤ m) with
          | true => exact h9
          | false =>
            simp only [cond_false]
            rw [List.getD, List.getElem?_set_ne (fun e => heb e.symm)]
            exact h9)
       refine wpOp_mono ?_ hk2
       rintro a'' w'' ⟨v, rfl, hv, hR0⟩
       have hR : Pu w w'' := by
        cases h : Nat.beq i m with
        | true => rw [h] at hR0; exact Below.trans h5 hR0
        | false => rw [h] at hR0; exact h5.trans hR0
       have hR1 : i ≠ m → Pu w' w'' := by
        intro him
        have : Nat.beq i m = false := by cases h : Nat.beq i m with | false => rfl | true => exact absurd (Nat.eq_of_beq_eq_true h) him
        rw [this] at hR0; exact hR0
       refine ⟨by simp [h1], .inl ⟨?_, ?_, ?_, ?_, ?_, hR, ?_⟩⟩
       · rw [Array.getElem?_setIfInBounds_ne hin]; exact hnf
       · intro j oj hj hl e he hb
         by_cases hij : i = j
         · subst hij
           rw [ho] at hj; cases hj
           have h8 := hi4 e he hb
           by_cases hie : i = e.on
           · rw [← hie] at h8; rw [hif] at h8; cases h8
           · rw [Array.getElem?_setIfInBounds_ne hie]; exact h8
         · have hl' : listed[j]? = some true := by rw [Array.getElem?_setIfInBounds_ne hij] at hl; exact hl
           have h8 := hcl j oj hj hl' e he hb
           by_cases hie : i = e.on
           · rw [← hie] at h8; rw [hif] at h8; cases h8
           · rw [Array.getElem?_setIfInBounds_ne hie]; exact h8
       · cases ops[i].dst <;> exact h2
       · cases ops[i].dst <;> simp [Act.put, h3]
       · intro t ht
         rw [← h4 t ht]
         have hne0 : ops[i].dst ≠ some t := by
          intro e
          have : isDstL (ops.toList.take n) t = true := by
           refine List.any_eq_true.2 ⟨ops[i], ?_, by rw [e]; simp⟩
           refine List.mem_iff_getElem.2 ⟨i, by simp; omega, by simp⟩
          rw [ht] at this; cases this
         cases hd : ops[i].dst with
         | none => rfl
         | some d =>
           have hne : d ≠ t := fun e => hne0 (by rw [hd, e])
           simp [Act.put, Array.getElem?_setIfInBounds_ne hne]
       · intro j oj hj hl hbr
         by_cases hij : i = j
         · subst hij
           rw [ho] at hj; cases hj
           cases hd : ops[i].dst with
           | none => rw [hd] at hv; exact hv
           | some d =>
             rw [hd] at hv
             have hdl : d < a'.tmps.size := by
              rw [h3]
              have := List.all_eq_true.1 hsize ops[i] (by simp)
              rw [hd] at this; simpa using this
             simpa [slot, Act.put, Array.getElem?_setIfInBounds_self, hdl] using hv
         · have hl' : listed[j]? = some true := by rw [Array.getElem?_setIfInBounds_ne hij] at hl; exact hl
           have hold : Φs.getD j Any (slot a' oj.dst) w'' := by
            by_cases him : i = m
            · have hjb : j ≠ b := by
               rcases hbr with h | h
               · exact h
               · rw [← him, Array.getElem?_setIfInBounds_self, if_pos hlt] at h; cases h
              exact hkeepB j (fun e => hij (him.trans e.symm)) hjb _ _ _ (h6 j oj hj hl' (.inl hjb))
            · refine hkeep j _ _ _ (h6 j oj hj hl' (hbr.imp (fun h => h) fun h => ?_)) (hR1 him)
              rw [Array.getElem?_setIfInBounds_ne him] at h; exact h
           have hsame : slot (a'.put ops[i].dst v) oj.dst = slot a' oj.dst := by
            cases hd : ops[i].dst with
            | none => rfl
            | some d =>
              cases hd2 : oj.dst with
              | none => rfl
              | some d2 =>
                have hne : d ≠ d2 := by
                 simp only [dstsApart, List.all_eq_true, List.mem_range] at hD
                 have hj1 : j < ops.size := (Array.getElem?_eq_some_iff.1 hj).1
                 have := hD i hi1 j hj1
                 rw [ho, hj] at this
                 simp [hd, hd2, hij] at this
                 exact this
                simp [slot, Act.put, Array.getElem?_setIfInBounds_ne hne]
           rw [hsame]; exact hold
   · have := hall i hi1
     rw [hif] at this; cases this
 · intro listed a' w' ⟨h1, h⟩ hr
   have hall := ready_nil hE listed h1 hr
   rcases h with ⟨hnf, _⟩ | ⟨_, hQ⟩
   · have := hall n (by omega)
     rw [hnf] at this; cases this
   · exact hQ
 · refine ⟨by simp, .inl ⟨?_, ?_, rfl, rfl, fun _ _ => rfl, ⟨rfl, rfl, rfl, Nat.le_refl _, fun _ _ => rfl⟩, ?_⟩⟩
   · rw [Array.getElem?_replicate, if_pos (by omega)]
   · intro j oj hj hl
     have hj1 : j < ops.size := (Array.getElem?_eq_some_iff.1 hj).1
     rw [Array.getElem?_replicate, if_pos hj1] at hl; cases hl
   · intro j oj hj hl _
     have hj1 : j < ops.size := (Array.getElem?_eq_some_iff.1 hj).1
     rw [Array.getElem?_replicate, if_pos hj1] at hl; cases hl
 · rw [Array.toList_replicate, List.count_replicate_self]; exact Nat.le_refl _
/-- An append within a drawn region: both the call's own, either may be nil. -/
theorem op_append2 {R : World → Prop} {Φ : Value → World → Prop} {i : Nat} {o : Oper} {a' : Act} {w : World} (ho : ops[i]? = some o) (hg : o.guard = none) (s x : Operand) (t : TypeId)
 (hop : o.op = Op.call { callee := Callee.builtin Builtin.append, args := #[s, x], argTypes := #[t, t] })
 (base : Nat) (e : TypeId) (inf : TypeInfo) (z : Value) (bytes : Nat) (h1 : P.underlying t = some (.slice e)) (h2 : P.info? e = some inf) (h3 : inf.zero = some z) (h4 : inf.size = 1) (h5 : inf.bytes = bytes) (h6 : z.cells.size = 1)
 (v : Value) (n : Nat) (xs : List Value) (hs : a'.eval s = v) (hown : w.ownsRow base e 1 v n xs)
 (ad : Addr) (m c : Nat) (news : List Value) (hx : a'.eval x = .slice (some ad) m c) (hn : news.length = m) (hc : ∀ j u, news[j]? = some u → w.cell? (ad.add j) = some u) (h1c : ∀ u ∈ news, u.oneCell' = true)
 (b1 : n + m ≤ maxLen) (b2 : (n + m) * bytes ≤ 140737488355328) (hbase : base ≤ w.heap.size) (hd : o.dst.isSome = true)
 (hK : ∀ v' w', w'.ownsRow base e 1 v' (n + m) (xs ++ news) → w.grownBy w' v.ownBlock → (v'.ownBlock = v.ownBlock ∨ v'.ownBlock = some w.heap.size) → Φ v' w' ∧ R w') :
 wpOp P ops Q i (fun a'' w'' => ∃ v, a'' = a'.put o.dst v ∧ Φ (if o.dst.isSome then v else undef) w'' ∧ R w'') a' w := by
 have hw : Region.wanted o (yielded ops a'.tmps) = true := wanted_none hg
 unfold wpOp
 simp only [ho, hw, if_true]
 refine .inl ?_
 obtain ⟨v', w', hr, hA, hB, _, hD⟩ := run_append_own_at (P := P) w base t o.type e inf z 1 bytes h1 h2 h3 h4 h5 h6 (by decide) v n xs hown ad m c news (by omega) hc h1c b1 b2 hbase
 unfold Oper.wp execOp
 simp only [hop, resolve, invoke, builtin, Sem.run_bind, Sem.run_pure, Result.andThen_ok, List.map_toArray, List.map_cons, List.map_nil, hs, hx, hr]
 obtain ⟨q1, q2⟩ := hK v' w' hA hB hD
 exact ⟨v', rfl, by rw [if_pos hd]; exact q1, q2⟩
end
/-- A list that is new. -/
def IsRowO (B : Nat) (e : TypeId) (n : Nat) (xs : List Value) : Value → World → Prop := fun v w => ∃ a cap, v = .slice a n cap ∧ w.ownsRow B e 1 (.slice a n cap) n xs
theorem IsRowO.of {B e n : Nat} {xs : List Value} {v : Value} {w : World} (h : w.ownsRow B e 1 v n xs) : IsRowO B e n xs v w := by
 rcases h.2 with ⟨rfl, rfl⟩ | ⟨g, cap, cur, rfl, _⟩
 · exact ⟨none, 0, rfl, h⟩
 · exact ⟨_, _, rfl, h⟩
instance (B : Nat) (e : TypeId) (n : Nat) (xs : List Value) : Stable (IsRowO B e n xs) := ⟨fun v w w' h hp => by
 obtain ⟨a, cap0, hv, h⟩ := h
 refine ⟨a, cap0, hv, h.1, ?_⟩
 rcases h.2 with h0 | ⟨g, cap, cur, hv, hg, hc, rest⟩
 · exact .inl h0
 · refine .inr ⟨g, cap, cur, hv, hg, ?_, rest⟩
   rw [hp.block g (Array.getElem?_eq_some_iff.1 hc).1]
   exact hc⟩
end Go.Esc
namespace Go.Esc
open Go Go.RowKit Go.Proofs.YtoakccknimoogaaGreat
/-- Which record lies where, and where which one lies. -/
structure Per (n : Nat) (s t : Nat → Nat) : Prop where
 sl : ∀ i, i < n → s i < n
 tl : ∀ i, i < n → t i < n
 st : ∀ i, i < n → s (t i) = i
 ts : ∀ i, i < n → t (s i) = i
theorem Per.id (n : Nat) : Per n (fun i => i) (fun i => i) := ⟨fun _ h => h, fun _ h => h, fun _ _ => rfl, fun _ _ => rfl⟩
/-- N is the first that was not opened, of the first k. -/
structure First (n k N : Nat) (t : Nat → Nat) : Prop where
 le : N ≤ n
 all : ∀ j, j < N → t j < k
 next : N < n → k ≤ t N
end Go.Esc
