/- The sizes as a row of the call's own. -/
import Derived.Test.YtfpepaeoclmcpaaGreatPad
import Derived.Test.YtfpepaeoclmcpaaGreatBookGrow
set_option linter.unusedSimpArgs false
set_option linter.unusedVariables false
namespace Go.Proofs.YtfpepaeoclmcpaaGreat
open Go.RowKit Go.Esc
theorem ownB {w : World} {B B' e n : Nat} {v : Value} {xs : List Value} (h : w.ownsRow B e 1 v n xs) (hb : B' ≤ B) : w.ownsRow B' e 1 v n xs := by
  refine ⟨h.1, ?_⟩
  rcases h.2 with hn | ⟨g, cap, cur, hv, hg, rest⟩
  · exact .inl hn
  · exact .inr ⟨g, cap, cur, hv, by omega, rest⟩
theorem Pu_drew (w : World) : Pu w { w with drawn := w.drawn + 1 } := ⟨rfl, rfl, rfl, Nat.le_refl _, fun _ _ => rfl⟩
set_option maxHeartbeats 800000 in
set_option maxRecDepth 100000 in
theorem sizesOwn_made (b : Nat) (w : World) (h : Row w b 56 [.int .u32 0, .int .i32 0, .int .u32 0, .slice none 0 0]) :
    Calls Tryz.prog 16 #[.pointer (some ⟨b, 0, none⟩)] w fun e w' => ∃ g cap, e = .returned (.slice (some ⟨g, 0, none⟩) 4 cap) ∧ Below b w w' ∧ b < g ∧ w'.ownsRow (b + 1) 3 1 (.slice (some ⟨g, 0, none⟩) 4 cap) 4 (ints [32, 128, 512, 2048]) := by
  have hb := h.lt
  have hmf := mkf
  have hrun : ∀ (w1 : World), (callFunc 52 #[.pointer (some ⟨w.heap.size, 0, none⟩)]).run Tryz.prog w1 = .ok (.enter 52 #[.pointer (some ⟨w.heap.size, 0, none⟩)]) w1 := fun w1 => run_callFunc_body Tryz.func52 (by kernel_rfl) (by kernel_rfl) _ w1
  have ra : Row (w.alloc (.cells #[.pointer (some ⟨b, 0, none⟩)] 76)) b 56 _ := h.alloc _
  have rp : Row (w.alloc (.cells #[.pointer (some ⟨b, 0, none⟩)] 76)) w.heap.size 76 [.pointer (some ⟨b, 0, none⟩)] := Row.new _ _ _
  have hdo := once_first b 0 52 #[.pointer (some ⟨w.heap.size, 0, none⟩)] _ (fun w2 => Below b w w2 ∧ Row w2 w.heap.size 76 [.pointer (some ⟨b, 0, none⟩)] ∧ ∃ v, Row w2 b 56 [.int .u32 0, .int .i32 1, .int .u32 0, v] ∧ w2.ownsRow (w.heap.size + 1) 3 1 v 4 (ints [32, 128, 512, 2048])) hrun (ra.cell 0 (by simp)) (ra.cell 1 (by simp)) (ra.frozen 1 (by simp)) (by
    refine (sizes_fill b w.heap.size hb _ (ra.set 1 (.int .i32 1)) (rp.setOther _ _ (by simp; omega))).mono ?_
    rintro e w2 ⟨rfl, hbel, hp2, v, hr, hown⟩
    have hown' : w2.ownsRow (w.heap.size + 1) 3 1 v 4 (ints [32, 128, 512, 2048]) := by simpa using hown
    exact ⟨rfl, ⟨(((Below.refl b w).alloc (by omega) _).setCell (Nat.le_refl _) _).trans hbel, hp2, v, hr, hown'⟩, hr.cell 0 (by simp), hr.frozen 0 (by simp), hr.cell 1 (by simp), hr.frozen 1 (by simp)⟩)
  have hd2 := hdo.mono (R' := fun e w' => e = .returned (.tuple #[]) ∧ Below b w w' ∧ w'.cell? ⟨w.heap.size, 0, none⟩ = some (.pointer (some ⟨b, 0, none⟩)) ∧ ∃ g cap, w'.cell? ⟨b, 3, none⟩ = some (.slice (some ⟨g, 0, none⟩) 4 cap) ∧ b < g ∧ w'.ownsRow (b + 1) 3 1 (.slice (some ⟨g, 0, none⟩) 4 cap) 4 (ints [32, 128, 512, 2048])) (by
    rintro e w' ⟨rfl, w2, ⟨hb2, hp2, v, hr2, hown2⟩, rfl⟩
    obtain ⟨g, cap, rfl, hg1, hg2⟩ := own_form hown2 (by decide)
    have r1 := (hr2.drew.set 0 (.int .u32 1)).set 1 (.int .i32 0)
    refine ⟨rfl, ((hb2.drew).setCell (Nat.le_refl _) _).setCell (Nat.le_refl _) _, ?_, g, cap, r1.cell 3 (by simp), by omega, ?_⟩
    · exact ((hp2.drew.setOther ⟨b, 0, none⟩ _ (by simp; omega)).setOther ⟨b, 1, none⟩ _ (by simp; omega)).cell 0 (by simp)
    · have o1 := ownB hown2 (show b + 1 ≤ w.heap.size + 1 by omega)
      have o2 := own_puQ o1 (Pu_drew w2)
      have o3 := ownsRow_setCell_below o2 (a := ⟨b, 0, none⟩) (by simp) (.int .u32 1)
      exact ownsRow_setCell_below o3 (a := ⟨b, 1, none⟩) (by simp) (.int .i32 0))
  have HD := Lib.hid hd2
  clear hdo hrun hd2
  go_enter Tryz.func16, Tryz.ntmps16
  go_wp2_with (go_at_call 51; refine HD.out.mono ?_; rintro e w1 ⟨rfl, hb2, c0, g, cap, c3, hg, hrow⟩)
  go_ret
  exact ⟨g, cap, rfl, hb2, hg, hrow⟩

theorem sizesOwn (w : World) :
    Calls Tryz.prog 6 #[] w fun e w' => ∃ g cap, e = .returned (.slice (some ⟨g, 0, none⟩) 4 cap) ∧ Pu w w' ∧ w'.ownsRow w.heap.size 3 1 (.slice (some ⟨g, 0, none⟩) 4 cap) 4 (ints [32, 128, 512, 2048]) := by
  have hm := sizesOwn_made w.heap.size (w.alloc (.cells #[.int .u32 0, .int .i32 0, .int .u32 0, .slice none 0 0] 56)) (Row.new _ _ _)
  have HM := Lib.hid hm
  clear hm
  go_enter Tryz.func6, Tryz.ntmps6
  go_wp2_with (go_at_call 16; refine HM.out.mono ?_; rintro e w1 ⟨g, cap, rfl, hb, hg, hrow⟩)
  go_ret
  exact ⟨g, cap, rfl, ((Below.refl _ _).alloc (Nat.le_refl _) _).trans hb, ownB hrow (Nat.le_succ _)⟩

end Go.Proofs.YtfpepaeoclmcpaaGreat
