/- A strings.Builder in a walk. -/
import Derived.Test.YtdjbhbefghihcaaShelf
import Derived.Test.YtdjbhbefghihcaaUnhex
import Derived.Test.YtdjbhbefghihcaaTable
import Derived.Shelf.Strings.Builder1
namespace Go.Proofs.Ytdjbhbefghihcaa
open Go.RowKit Go.Esc
/-- Block b is a builder that holds the bytes l. -/
def Bld (w : World) (b : Nat) (l : Bs) : Prop := Lib.IsBuilder 98 5 b b (cells l) w
theorem Bld.new (w w' : World) (c : Array Value) (e : TypeId) (he : e = 98) (hc : c = #[.pointer none, .slice none 0 0]) (hw : w' = w.alloc (.cells c e)) : Bld w' w.heap.size [] := by
  subst he; subst hc; subst hw; exact Lib.fresh_isBuilder _ _ w
theorem Bld.pu {w w' : World} {b : Nat} {l : Bs} (h : Bld w b l) (hp : Pu w w') : Bld w' b l := by
  have key : ∀ p, Lib.BuilderAt 98 5 b b p (cells l) w → Lib.BuilderAt 98 5 b b p (cells l) w' := by
    intro p hb
    have hlt := hb.lt
    obtain ⟨hB, v, hh, hown, hne⟩ := hb
    exact ⟨hB, v, by rw [hp.block b hlt]; exact hh, own_pu hown hp, hne⟩
  rcases h with h | h
  · exact .inl (key _ h)
  · exact .inr (key _ h)
theorem Bld.lt {w : World} {b : Nat} {l : Bs} (h : Bld w b l) : b < w.heap.size := by
  rcases h with h | h
  · exact h.lt
  · exact h.lt
theorem write (b : Nat) (l s : Bs) (w : World) (h : Bld w b l) (hlen : l.length + s.length ≤ 140737488355328) :
    Calls Try.prog 85 #[.pointer (some ⟨b, 0, none⟩), S s] w fun e w' => e = .returned (.tuple #[.int .i64 s.length, .nilIface]) ∧ Bld w' b (l ++ s) ∧ Below b w w' := by
  refine (Try.Builder_WriteString b b (cells l) (bs s) w h (by rw [cells_length, bs_size]; exact hlen) (Nat.le_of_lt h.lt)).mono ?_
  rintro e w' ⟨rfl, h1, h2⟩
  refine ⟨by rw [bs_size], .inr ?_, h2⟩
  have e : cells l ++ Lib.strCells (bs s) = cells (l ++ s) := by simp [cells, Lib.strCells, bs, B]
  rw [e] at h1; exact h1
theorem string (b : Nat) (l : Bs) (w : World) (h : Bld w b l) :
    Calls Try.prog 86 #[.pointer (some ⟨b, 0, none⟩)] w fun e w' => e = .returned (S l) ∧ Below b w w' :=
  Try.Builder_String_any b b l w h (Nat.le_of_lt h.lt)
end Go.Proofs.Ytdjbhbefghihcaa
