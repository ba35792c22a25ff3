/- ratchet.Session. -/
import Derived.Test.YtdjbhbefghihcaaRatchet
import Derived.Test.YtdjbhbefghihcaaMem
set_option linter.unusedSimpArgs false
set_option linter.unusedVariables false
namespace Go.Proofs.Ytdjbhbefghihcaa
open Go.RowKit Go.Esc
def upW : Bs := [117, 112]
def downW : Bs := [100, 111, 119, 110]
def keysV (secret salt : Bs) : List Value := [S (deriveL secret salt upW), S (deriveL secret salt downW)]
theorem deriveL_length (a b c : Bs) : (deriveL a b c).length = 32 := expandL_length _ _ _
set_option maxRecDepth 100000 in
set_option maxHeartbeats 1600000 in
theorem session (secret salt : Bs) (h : salt.length ≤ 100000) (h2 : secret.length ≤ 800000) (w : World) :
    Calls Try.prog 73 #[S secret, S salt] w fun e w' => e = .returned (.agg (keysV secret salt).toArray) ∧ Pu w w' := by
  have hi : (Try.prog.info? 69).map (·.size) = some 2 := by kernel_rfl
  have hK1 := fun w => deriveKey secret salt upW h h2 (by decide) w
  have hK2 := fun w => deriveKey secret salt downW h h2 (by decide) w
  obtain ⟨u, hu⟩ : ∃ u, u = deriveL secret salt upW := ⟨_, rfl⟩
  obtain ⟨d, hd⟩ : ∃ u, u = deriveL secret salt downW := ⟨_, rfl⟩
  have hkv : keysV secret salt = [S u, S d] := by rw [keysV, ← hu, ← hd]
  rw [hkv]
  rw [← hu] at hK1
  rw [← hd] at hK2
  have HK1 := Lib.hid hK1
  have HK2 := Lib.hid hK2
  have hb0 := (Pu.refl w).alloc (.cells #[.string ⟨#[]⟩, .string ⟨#[]⟩] 69)
  clear hK1 hK2 hu hd hkv
  go_enter Try.func73, Try.ntmps73
  go_wp2_with (first
    | (go_at_call 59; first
       | (refine (HK1.out _).mono ?_; rintro e w2 ⟨rfl, hp2⟩; clear HK1)
       | (refine (HK2.out _).mono ?_; rintro e w3 ⟨rfl, hp3⟩))
    | (refine wpList_store_part rfl 69 (.tmp 4) (.tmp 11) rfl w.heap.size 0 [S u, S d] (by rfl) (by rfl) (((Row.newAt w w.heap.size _ _ rfl rfl).pu hp2).pu hp3) hi (by simp) (by simp [Value.oneCell']) ?_; intro w4 hr4 hch4))
  rw [splice_all (by rfl)] at hr4
  have hrl := hr4.load (P := Try.prog) 69 0 2 Try.underlying69 rfl hi (by simp)
  (try simp only [Exit.inBlock, Exit.then])
  refine bodyPost_ret (results_cell_eq rfl _ _ rfl hrl) rfl ?_
  exact ⟨rfl, hch4.below ((hb0.trans hp2).trans hp3) (Nat.le_refl _)⟩
end Go.Proofs.Ytdjbhbefghihcaa
