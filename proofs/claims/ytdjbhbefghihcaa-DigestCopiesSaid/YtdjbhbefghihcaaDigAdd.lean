/- (*Digest).Add, Len, Copy. -/
import Derived.Test.YtdjbhbefghihcaaAdd
set_option linter.unusedSimpArgs false
set_option linter.unusedVariables false
namespace Go.Proofs.Ytdjbhbefghihcaa
open Go.RowKit Go.Esc
theorem IsDig.length {xs : List Value} {l : Bs} (h : IsDig xs l) : xs.length = 11 := by
  rcases h with ⟨-, rfl⟩ | rfl
  · exact dcells_length _ _ rfl _ _
  · exact dcells_length _ _ rfl _ _
theorem IsDig.one {xs : List Value} {l : Bs} (h : IsDig xs l) : xs.all (·.oneCell') = true := by
  rcases h with ⟨-, rfl⟩ | rfl <;> rfl
theorem IsDig.n {xs : List Value} {l : Bs} (h : IsDig xs l) : xs[10]? = some (.int .i64 l.length) := by
  rcases h with ⟨rfl, rfl⟩ | rfl <;> rfl
theorem IsDig.cell {xs : List Value} {l : Bs} (h : IsDig xs l) {w : World} {b : Nat} {e : TypeId} (hr : Row w b e xs) : w.cell? ⟨b, 10, none⟩ = some (.int .i64 l.length) := by
  rw [hr.cell' 10 (by rw [h.length]; omega)]; exact h.n
/-- Block b is a digest of the bytes l. -/
def Dig (w : World) (b : Nat) (l : Bs) : Prop := ∃ e xs, Row w b e xs ∧ IsDig xs l
theorem Dig.lt {w : World} {b : Nat} {l : Bs} (h : Dig w b l) : b < w.heap.size := by obtain ⟨_, _, h, _⟩ := h; exact h.lt
theorem Dig.pu {w w' : World} {b : Nat} {l : Bs} (h : Dig w b l) (hp : Pu w w') : Dig w' b l := by obtain ⟨e, xs, h, hx⟩ := h; exact ⟨e, xs, h.pu hp, hx⟩
theorem Dig.but {g : Nat} {w w' : World} {b : Nat} {l : Bs} (h : Dig w b l) (hp : But g w w') (hne : b ≠ g) : Dig w' b l := by obtain ⟨e, xs, h, hx⟩ := h; exact ⟨e, xs, hp.row h hne, hx⟩
theorem Dig.new (w : World) (e : TypeId) : Dig (w.alloc (.cells (dcells false zero8 [] 0).toArray e)) w.heap.size [] := ⟨e, _, Row.new _ _ _, .inl ⟨rfl, rfl⟩⟩
set_option maxRecDepth 100000 in
set_option maxHeartbeats 1600000 in
theorem digestAdd (db : Nat) (l b : Bs) (hl : l.length + b.length ≤ 1000000) (w : World) (hd : Dig w db l) :
    Calls Try.prog 43 #[.pointer (some ⟨db, 0, none⟩), S b] w fun e w' => e = .returned (.tuple #[]) ∧ But db w w' ∧ Dig w' db (l ++ b) := by
  obtain ⟨de, xs, hd, hx⟩ := hd
  have hlt := hd.lt
  have HX := Lib.hid hx
  clear hx
  go_enter Try.func43, Try.ntmps43
  go_wp2_with (first
    | (go_at_call 84; refine (table_made w.heap.size _ _ (Row.newAt _ _ _ _ rfl rfl)).mono ?_; rintro e w1 ⟨rfl, hb1, ht1⟩; have hd1 : Row w1 db de xs := hb1.row (hd.alloc _) (by omega); have hp1 : Pu w w1 := But.below ((Pu.refl w).alloc _) hb1 (Nat.le_refl _) (by simp))
    | (go_at_call 83; refine (add db w.heap.size de _ (by omega) l b hl xs HX.out w1 hd1 ht1).mono ?_; rintro e w2 ⟨rfl, hb2, hr2⟩))
  go_end0
  exact ⟨rfl, (But.pu hp1).trans hb2, de, _, hr2, .inr rfl⟩
theorem digestAdd_nil (b : Bs) (w : World) :
    Calls Try.prog 43 #[.pointer none, S b] w fun e w' => e = .returned (.tuple #[]) ∧ w' = w := by
  go_enter Try.func43, Try.ntmps43
  go_wp2_with fail
  go_end0
  exact ⟨rfl, rfl⟩
theorem digestLen (db : Nat) (l : Bs) (w : World) (hd : Dig w db l) :
    Calls Try.prog 45 #[.pointer (some ⟨db, 0, none⟩)] w fun e w' => e = .returned (.int .i64 l.length) ∧ w' = w := by
  obtain ⟨de, xs, hd, hx⟩ := hd
  have hc := hx.cell hd
  clear hx hd
  go_enter Try.func45, Try.ntmps45
  go_wp2_with fail
  go_ret
  exact ⟨rfl, rfl⟩
theorem digestLen_nil (w : World) :
    Calls Try.prog 45 #[.pointer none] w fun e w' => e = .returned (.int .i64 0) ∧ w' = w := by
  go_enter Try.func45, Try.ntmps45
  go_wp2_with fail
  go_ret
  exact ⟨rfl, rfl⟩
theorem digestCopy_nil (w : World) :
    Calls Try.prog 46 #[.pointer none] w fun e w' => e = .returned (.pointer none) ∧ w' = w := by
  go_enter Try.func46, Try.ntmps46
  go_wp2_with fail
  go_ret
  exact ⟨rfl, rfl⟩
end Go.Proofs.Ytdjbhbefghihcaa
