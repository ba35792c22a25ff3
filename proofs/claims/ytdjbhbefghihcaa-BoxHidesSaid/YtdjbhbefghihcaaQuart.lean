/- Four words mixed: package stream's and the document's. -/
import Derived.Test.YtdjbhbefghihcaaCha
import Derived.Test.YtdjbhbefghihcaaRot
import Derived.Test.YtdjbhbefghihcaaRegionC
set_option linter.unusedSimpArgs false
set_option linter.unusedVariables false
namespace Go.Proofs.Ytdjbhbefghihcaa
open Go.RowKit Go.Esc
def qv (q : Q4) : Value := .tuple #[V q.a, V q.b, V q.c, V q.d]
theorem leftK (x : BitVec 32) (n : Nat) (h : n < 32) (w : World) :
    Calls Try.prog 159 #[V x, .int .i64 (n : Int)] w fun e w' => e = .returned (V (rotl x n)) ∧ w' = w := by
  have e : ((n : Int) % 32).toNat = n := by omega
  have hl := left x (n : Int) (by omega) (by omega) w
  rw [e] at hl; exact hl
set_option maxRecDepth 100000 in
set_option maxHeartbeats 800000 in
theorem quart (a b c d : BitVec 32) (w : World) :
    Calls Try.prog 144 #[V a, V b, V c, V d] w fun e w' => e = .returned (qv (quarter a b c d)) ∧ w' = w := by
  have h16 : ∀ (x : BitVec 32) (w : World), Calls Try.prog 159 #[V x, .int .i64 16] w fun e w' => e = .returned (V (rotl x 16)) ∧ w' = w := fun x w => leftK x 16 (by decide) w
  have h12 : ∀ (x : BitVec 32) (w : World), Calls Try.prog 159 #[V x, .int .i64 12] w fun e w' => e = .returned (V (rotl x 12)) ∧ w' = w := fun x w => leftK x 12 (by decide) w
  have h8 : ∀ (x : BitVec 32) (w : World), Calls Try.prog 159 #[V x, .int .i64 8] w fun e w' => e = .returned (V (rotl x 8)) ∧ w' = w := fun x w => leftK x 8 (by decide) w
  have h7 : ∀ (x : BitVec 32) (w : World), Calls Try.prog 159 #[V x, .int .i64 7] w fun e w' => e = .returned (V (rotl x 7)) ∧ w' = w := fun x w => leftK x 7 (by decide) w
  have H16 := Lib.hid h16
  have H12 := Lib.hid h12
  have H8 := Lib.hid h8
  have H7 := Lib.hid h7
  clear h16 h12 h8 h7
  go_enter Try.func144, Try.ntmps144
  go_wp2_with (go_at_call 159; first
    | (with_reducible refine (H16.out _ _).mono ?_
       rintro e w1 ⟨rfl, rfl⟩)
    | (with_reducible refine (H12.out _ _).mono ?_
       rintro e w1 ⟨rfl, rfl⟩)
    | (with_reducible refine (H8.out _ _).mono ?_
       rintro e w1 ⟨rfl, rfl⟩)
    | (with_reducible refine (H7.out _ _).mono ?_
       rintro e w1 ⟨rfl, rfl⟩))
  refine bodyPost_ret (v := qv (quarter a b c d)) (by simp [results, Try.results144, go_sem]; rfl) rfl ⟨rfl, rfl⟩
theorem refLeftK (x : BitVec 32) (n : Nat) (h : n < 32) (w : World) :
    Calls Try.prog 82 #[V x, .int .i64 (n : Int)] w fun e w' => e = .returned (V (rotl x n)) ∧ w' = w := by
  have e : ((n : Int) % 32).toNat = n := by omega
  have hl := refLeft x (n : Int) (by omega) (by omega) w
  rw [e] at hl; exact hl
set_option maxRecDepth 100000 in
set_option maxHeartbeats 800000 in
theorem refQuart (a b c d : BitVec 32) (w : World) :
    Calls Try.prog 124 #[V a, V b, V c, V d] w fun e w' => e = .returned (qv (quarter a b c d)) ∧ w' = w := by
  have h16 : ∀ (x : BitVec 32) (w : World), Calls Try.prog 82 #[V x, .int .i64 16] w fun e w' => e = .returned (V (rotl x 16)) ∧ w' = w := fun x w => refLeftK x 16 (by decide) w
  have h12 : ∀ (x : BitVec 32) (w : World), Calls Try.prog 82 #[V x, .int .i64 12] w fun e w' => e = .returned (V (rotl x 12)) ∧ w' = w := fun x w => refLeftK x 12 (by decide) w
  have h8 : ∀ (x : BitVec 32) (w : World), Calls Try.prog 82 #[V x, .int .i64 8] w fun e w' => e = .returned (V (rotl x 8)) ∧ w' = w := fun x w => refLeftK x 8 (by decide) w
  have h7 : ∀ (x : BitVec 32) (w : World), Calls Try.prog 82 #[V x, .int .i64 7] w fun e w' => e = .returned (V (rotl x 7)) ∧ w' = w := fun x w => refLeftK x 7 (by decide) w
  have H16 := Lib.hid h16
  have H12 := Lib.hid h12
  have H8 := Lib.hid h8
  have H7 := Lib.hid h7
  clear h16 h12 h8 h7
  go_enter Try.func124, Try.ntmps124
  go_wp2_with (go_at_call 82; first
    | (with_reducible refine (H16.out _ _).mono ?_
       rintro e w1 ⟨rfl, rfl⟩)
    | (with_reducible refine (H12.out _ _).mono ?_
       rintro e w1 ⟨rfl, rfl⟩)
    | (with_reducible refine (H8.out _ _).mono ?_
       rintro e w1 ⟨rfl, rfl⟩)
    | (with_reducible refine (H7.out _ _).mono ?_
       rintro e w1 ⟨rfl, rfl⟩))
  refine bodyPost_ret (v := qv (quarter a b c d)) (by simp [results, Try.results124, go_sem]; rfl) rfl ⟨rfl, rfl⟩
end Go.Proofs.Ytdjbhbefghihcaa
