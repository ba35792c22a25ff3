/- Contracts of package pad. -/
import Derived.Test.YticdbilkhkfopaaGreatOnce
import Derived.Test.YticdbilkhkfopaaGreatOctet
import Derived.Test.YticdbilkhkfopaaGreatInfo
import Derived.Test.YticdbilkhkfopaaGreatStep
set_option linter.unusedSimpArgs false
set_option linter.unusedVariables false
namespace Go.Proofs.YticdbilkhkfopaaGreat
open Go.RowKit Go.Esc
def ints (l : List Int) : List Value := l.map (.int .i64)
def szs (k : Nat) : List Int := ([32, 128, 512, 2048] : List Int).take k
def szAt (k : Nat) : Int := 32 * 4 ^ k

theorem szAt_le (k : Nat) (h : k < 4) : 1 ≤ szAt k ∧ szAt k ≤ 2048 := by
  match k, h with
  | 0, _ => decide
  | 1, _ => decide
  | 2, _ => decide
  | 3, _ => decide
theorem szs_succ (k : Nat) (h : k < 4) : szs (k+1) = szs k ++ [szAt k] := by
  match k, h with
  | 0, _ => decide
  | 1, _ => decide
  | 2, _ => decide
  | 3, _ => decide
set_option maxHeartbeats 800000 in
set_option maxRecDepth 100000 in
theorem sizes_fill (b pv : Nat) (hb : b < pv) (w : World) (h : Row w b 291 [.int .u32 0, .int .i32 1, .int .u32 0, .slice none 0 0]) (hp : Row w pv 317 [.pointer (some ⟨b, 0, none⟩)]) :
    Calls Tryz.prog 255 #[.pointer (some ⟨pv, 0, none⟩)] w fun e w' => e = .returned (.tuple #[]) ∧
      Below b w w' ∧ Row w' pv 317 [.pointer (some ⟨b, 0, none⟩)] ∧ ∃ v, Row w' b 291 [.int .u32 0, .int .i32 1, .int .u32 0, v] ∧ w'.ownsRow w.heap.size 3 1 v 4 (ints [32, 128, 512, 2048]) := by
  obtain ⟨i0, hi, hz0, hz1, hz2⟩ := info_parts infoI
  go_enter Tryz.func255, Tryz.ntmps255
  go_wp2_with fail
  go_loopw [1] (fun n wr => ∃ k : Nat, k ≤ 4 ∧ n = .int .i64 (szAt k) ∧ Below b w wr ∧ Row wr pv 317 [.pointer (some ⟨b, 0, none⟩)] ∧ ∃ v, Row wr b 291 [.int .u32 0, .int .i32 1, .int .u32 0, v] ∧ wr.ownsRow w.heap.size 3 1 v k (ints (szs k))) (fun n _ => 8192 - (intOf n).toNat)
  case atStart => exact ⟨0, by omega, rfl, Below.refl _ _, hp, _, h, World.ownsRow_nil _ _ _ _⟩
  case round =>
    obtain ⟨k, hk, rfl, hbel, hpv, v, hrow, hown⟩ := hrel
    obtain ⟨va, vc, rfl, hlt'⟩ := own_slice hown
    have c0 := hpv.cell 0 (by simp)
    have c3 := hrow.cell 3 (by simp)
    simp at c0 c3
    by_cases hlt : k < 4
    · have f3 := hrow.frozen 3 (by simp)
      have hbw := hbel.size
      have hB : b < w.heap.size := h.lt
      have hP : pv < w.heap.size := hp.lt
      have hk4 : (k : Int) < 4 := by omega
      have ca : ∀ o, (wr.alloc o).cell? ⟨b, 3, none⟩ = some (.slice va k vc) := fun o => (hrow.alloc o).cell 3 (by simp)
      have cp : ∀ o, (wr.alloc o).cell? ⟨pv, 0, none⟩ = some (.pointer (some ⟨b, 0, none⟩)) := fun o => (hpv.alloc o).cell 0 (by simp)
      go_wp2_with fail
      go_outline
      go_region_law? (refine step_append_own rfl (.tmp 14) (.tmp 16) 77 rfl w.heap.size 3 i0 (.int .i64 0) 1 8 Tryz.underlying77 hi hz0 hz1 hz2 rfl (by decide) (.slice va k vc) k (ints (szs k)) (by simp [Act.eval, Act.put]) (hown.alloc _) ⟨wr.heap.size, 0, none⟩ 1 1 [.int .i64 (szAt k)] (by simp [Act.eval, Act.put]) rfl (by intro j u hj; match j, hj with | 0, hj => simp at hj; subst hj; simp [Addr.add]) (by intro u hu; simp at hu; subst hu; rfl) (by unfold maxLen; omega) (by omega) (by simp; omega) ?_; intro v' w2 hown2 hgrow2; obtain ⟨g, cap2, rfl, hg1, hg2⟩ := own_form hown2 (by omega); have hr2 := grown_row hgrow2 (hrow.alloc _) (by intro h; have := hlt' b h.symm; omega); have hp2 := grown_row hgrow2 (hpv.alloc _) (by intro h; have := hlt' pv h.symm; omega); have z3 := hr2.cell 3 (by simp); have zf := hr2.frozen 3 (by simp); have z0 := hp2.cell 0 (by simp); simp at z3 z0)
      all_goals
        have hb2 : Below b wr w2 := (((Below.refl b wr).alloc (by omega) _).drew).grown hgrow2 (by simp; omega) (fun j hj => by have := hlt' j hj; omega)
        have hsz := szAt_le k hlt
        go_wp2_with fail
        go_roundw
        case rel =>
          refine ⟨k+1, by omega, by rw [show szAt (k+1) = szAt k * 4 by simp [szAt, Int.pow_succ, Int.mul_assoc]], (hbel.trans hb2).setCell (Nat.le_refl _) _, hp2.setOther _ _ (by simp; omega), _, hr2.set 3 _, ?_⟩
          have := (ownsRow_setCell_below hown2 (a := ⟨b, 3, none⟩) (by simpa using hB) (.slice (some ⟨g, 0, none⟩) (k+1) cap2))
          rw [szs_succ k hlt, ints, List.map_append]
          exact this
        case measure => simp [intOf, szAt] at *; omega
    · obtain rfl : k = 4 := by omega
      go_wp2_with fail
      go_end0
      exact ⟨rfl, hbel, hpv, _, hrow, by simpa [szs] using hown⟩

end Go.Proofs.YticdbilkhkfopaaGreat
