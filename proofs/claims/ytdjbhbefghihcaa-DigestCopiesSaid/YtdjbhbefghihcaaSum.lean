/- digest.Sum. -/
import Derived.Test.YtdjbhbefghihcaaDigSum
set_option linter.unusedSimpArgs false
set_option linter.unusedVariables false
namespace Go.Proofs.Ytdjbhbefghihcaa
open Go.RowKit Go.Esc
set_option maxRecDepth 100000 in
set_option maxHeartbeats 1600000 in
theorem sum (l : Bs) (hl : l.length ≤ 900000) (w : World) :
    Calls Try.prog 41 #[S l] w fun e w' => e = .returned (S (sha l)) ∧ Pu w w' := by
  have hd0 : Dig (w.alloc (.cells (dcells false zero8 [] 0).toArray 38)) w.heap.size [] := Dig.new w _
  have HD0 := Lib.hid hd0
  clear hd0
  go_enter Try.func41, Try.ntmps41
  go_wp2_with (first
    | (go_at_call 43; refine (digestAdd w.heap.size [] l (by simp; omega) _ HD0.out).mono ?_; rintro e w1 ⟨rfl, hb1, hd1⟩; rw [List.nil_append] at hd1)
    | (go_at_call 44; refine (digestSum w.heap.size l hl _ hd1).mono ?_; rintro e w2 ⟨rfl, hp2⟩))
  go_ret
  exact ⟨rfl, (But.below ((Pu.refl w).alloc _) hb1 (Nat.le_refl _) (by simp)).trans (Below.mono hp2 (by have := hb1.size; simp at this; omega))⟩
theorem digestSum_nil (w : World) :
    Calls Try.prog 44 #[.pointer none] w fun e w' => e = .returned (S []) ∧ w' = w := by
  go_enter Try.func44, Try.ntmps44
  go_wp2_with fail
  go_ret
  exact ⟨rfl, rfl⟩
set_option maxRecDepth 100000 in
theorem digestCopy (db : Nat) (l : Bs) (w : World) (hd : Dig w db l) :
    Calls Try.prog 46 #[.pointer (some ⟨db, 0, none⟩)] w fun e w' => ∃ b, e = .returned (.pointer (some ⟨b, 0, none⟩)) ∧ w.heap.size ≤ b ∧ Dig w' b l ∧ Pu w w' := by
  obtain ⟨de, xs, hd, hx⟩ := hd
  have hlt := hd.lt
  have hx11 := hx.length
  have hone := hx.one
  have hi11 : (Try.prog.info? 38).map (·.size) = some 11 := by kernel_rfl
  have htk : ((xs.drop 0).take 11) = xs := by rw [List.drop_zero, List.take_of_length_le (by omega)]
  have HX := Lib.hid hx
  clear hx
  go_enter Try.func46, Try.ntmps46
  go_wp2_with (first
    | (refine wpList_load_part rfl 38 (.tmp 7) rfl db 0 11 (by rfl) hd Try.underlying38 rfl hi11 (by omega) ?_; rw [htk])
    | (refine wpList_store_part rfl 38 (.tmp 3) (.tmp 8) rfl w.heap.size 0 xs (by rfl) (by rfl) (Row.newAt _ _ _ _ rfl rfl) (by rw [hx11]; exact hi11) (by rw [hx11]; exact Nat.le_refl 11) hone ?_; intro w1 hx1 hch1
       rw [splice_all (by rw [hx11]; rfl)] at hx1))
  go_ret
  exact ⟨w.heap.size, rfl, Nat.le_refl _, ⟨_, xs, hx1, HX.out⟩, hch1.below ((Pu.refl w).alloc _) (Nat.le_refl _)⟩
end Go.Proofs.Ytdjbhbefghihcaa
