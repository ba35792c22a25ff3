/- strings.Repeat of one byte. -/
import Derived.Test.YticdbilkhkfopaaGreatShelf
import Derived.Test.YticdbilkhkfopaaGreatBase
namespace Go.Proofs.YticdbilkhkfopaaGreat
open Go.RowKit Go.Esc
theorem repeatL_one (x : UInt8) (m : Nat) : Lib.repeatL [x] m = List.replicate m x := by
  induction m with
  | zero => rfl
  | succ m ih => simp [Lib.repeatL, List.replicate_succ, ih]
theorem rep (x : UInt8) (c : Int) (w : World) (h0 : 0 ≤ c) (h : c ≤ 140737488355328) :
    Calls Tryz.prog 160 #[.string ⟨#[x]⟩, .int .i64 c] w fun e w' => e = .returned (S (List.replicate c.toNat x)) ∧ Pu w w' := by
  obtain ⟨m, rfl⟩ := Int.eq_ofNat_of_zero_le h0
  refine (Tryz.strings_Repeat ⟨#[x]⟩ m w (by omega) (by show 1 * m ≤ _; omega)).mono ?_
  rintro e w' ⟨rfl, hb⟩
  refine ⟨?_, hb⟩
  rw [← repeatL_one]; rfl

end Go.Proofs.YticdbilkhkfopaaGreat
