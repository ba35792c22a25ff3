/- The document's Record; no Out and no In. -/
import Derived.Test.YtoakccknimoogaaGreatU9
set_option linter.unusedSimpArgs false
set_option linter.unusedVariables false
namespace Go.Proofs.YtoakccknimoogaaGreat
open Go.RowKit Go.Esc
set_option maxRecDepth 100000 in
set_option maxHeartbeats 1600000 in
theorem refRecord (key : Bs) (hk : key.length = 32) (q : Nat) (hq : q ≤ 4000) (p pp : Bs) (hp : padL p = some pp) (hpl : p.length ≤ 80000) (hppl : pp.length ≤ 80000) (w : World) :
 Calls Tryz.prog 10 #[S key, .int .i64 (q : Int), S p] w fun e w' => e = .returned (S (recL key q p)) ∧ Pu w w' := by
 have hP := fun w => refPad p w (by omega)
 rw [hp] at hP
 have hP' : ∀ w, Calls Tryz.prog 25 #[S p] w fun e w' => e = .returned (.tuple #[S pp, .bool true]) ∧ Pu w w' := hP
 have hB := fun w => refPutBig (q : Int) 8 w (by omega) (by omega) (by decide) (by decide)
 rw [show ((q : Int)).toNat = q by omega, show ((8 : Int)).toNat = 8 from rfl] at hB
 have hT := fun w => refTurn key (q / 8) (by omega) (by omega) w
 have hN := fun w => refNonce q (by omega) w
 have hfine : fineL (turnL key (q / 8)) (nonceL q) = true := by
  unfold fineL
  rw [decide_eq_true_eq]
  refine ⟨?_, nonceL_length q⟩
  by_cases h0 : 0 < q / 8
  · exact turnL_length2 key _ h0
  · rw [show q / 8 = 0 by omega]; exact hk
 have hO := fun w => refBoxYes (turnL key (q / 8)) (nonceL q) pp (putB q 8) hfine (by omega) (by rw [putB_length]; omega) w
 have hrec : recL key q p = putB q 8 ++ sealL (turnL key (q / 8)) (nonceL q) pp (putB q 8) := by unfold recL; rw [hp]; rfl
 have h8 : (q : Int).tdiv 8 = ((q / 8 : Nat) : Int) := by rw [Int.tdiv_eq_ediv_of_nonneg (by omega)]; omega
 have h8' : (q : Int) / 8 = ((q / 8 : Nat) : Int) := by omega
 have hsl := sealL_length (turnL key (q / 8)) (nonceL q) pp (putB q 8)
 have hhl := putB_length q 8
 obtain ⟨e8, he8⟩ : ∃ e8, e8 = q / 8 := ⟨_, rfl⟩
 rw [← he8] at hT hO h8 h8' hrec hsl
 obtain ⟨k, hkk⟩ : ∃ k, k = turnL key e8 := ⟨_, rfl⟩
 obtain ⟨no, hno⟩ : ∃ no, no = nonceL q := ⟨_, rfl⟩
 obtain ⟨hd, hhd⟩ : ∃ z, z = putB q 8 := ⟨_, rfl⟩
 rw [← hkk] at hT hO hrec hsl
 rw [← hno] at hN hO hrec hsl
 rw [← hhd] at hB hO hrec hsl hhl
 obtain ⟨sl, hsle⟩ : ∃ z, z = sealL k no pp hd := ⟨_, rfl⟩
 rw [← hsle] at hO hrec hsl
 have zz : ¬ (9223372036854775807 < hd.length + sl.length) := by omega
 have k0 : 0 ≤ (q : Int) := by omega
 have hw : IntKind.u64.wrap (q : Int) = q := by rw [IntKind.wrap_u64]; omega
 have HP := Lib.hid hP'
 have HB := Lib.hid hB
 have HT := Lib.hid hT
 have HN := Lib.hid hN
 have HO := Lib.hid hO
 have HR := Lib.hid hrec
 clear hP hP' hB hT hN hO hrec he8 hkk hno hhd hsle hfine hp
 go_enter Tryz.func10, Tryz.ntmps10
 go_wp2_with (first
  | (go_at_call 25; refine (HP.out _).mono ?_; rintro e w1 ⟨rfl, hp1⟩)
  | (go_at_call 26; refine (HB.out _).mono ?_; rintro e w2 ⟨rfl, hp2⟩)
  | (go_at_call 28; refine (HT.out _).mono ?_; rintro e w3 ⟨rfl, hp3⟩)
  | (go_at_call 29; refine (HN.out _).mono ?_; rintro e w4 ⟨rfl, hp4⟩)
  | (go_at_call 27; refine (HO.out _).mono ?_; rintro e w5 ⟨rfl, hp5⟩))
 go_ret
 exact ⟨by rw [HR.out]; rfl, (((hp1.trans hp2).trans hp3).trans hp4).trans hp5⟩
set_option maxRecDepth 100000 in
theorem sealNil (b : Bs) (w : World) : Calls Tryz.prog 9 #[.pointer none, S b] w fun e w' => e = .returned (.tuple #[S [], .int .i64 7]) ∧ w' = w := by
 go_enter Tryz.func9, Tryz.ntmps9
 go_wp2_with fail
 go_ret2
 exact ⟨rfl, rfl⟩
set_option maxRecDepth 100000 in
theorem openNil (b : Bs) (w : World) : Calls Tryz.prog 12 #[.pointer none, S b] w fun e w' => e = .returned (.tuple #[.slice none 0 0, .int .i64 7]) ∧ w' = w := by
 go_enter Tryz.func12, Tryz.ntmps12
 go_wp2_with fail
 go_ret2
 exact ⟨rfl, rfl⟩
set_option maxRecDepth 100000 in
theorem outNextNil (w : World) : Calls Tryz.prog 11 #[.pointer none] w fun e w' => e = .returned (.int .i64 0) ∧ w' = w := by
 go_enter Tryz.func11, Tryz.ntmps11
 go_wp2_with fail
 go_ret
 exact ⟨rfl, rfl⟩
set_option maxRecDepth 100000 in
theorem inNextNil (w : World) : Calls Tryz.prog 16 #[.pointer none] w fun e w' => e = .returned (.int .i64 0) ∧ w' = w := by
 go_enter Tryz.func16, Tryz.ntmps16
 go_wp2_with fail
 go_ret
 exact ⟨rfl, rfl⟩
set_option maxRecDepth 100000 in
theorem inWaitsNil (w : World) : Calls Tryz.prog 17 #[.pointer none] w fun e w' => e = .returned (.int .i64 0) ∧ w' = w := by
 go_enter Tryz.func17, Tryz.ntmps17
 go_wp2_with fail
 go_ret
 exact ⟨rfl, rfl⟩
end Go.Proofs.YtoakccknimoogaaGreat
