/- A slice of pairs of texts as an argument. -/
import Derived.Test.YtlbdbmnkjljohaaGreatBools
import Derived.Test.YtlbdbmnkjljohaaGreatT17
namespace Go.Esc
open Go Go.RowKit
def IsPrs (w : World) (a : Option Addr) (len cap : Nat) : Prop :=
  (a = none ∧ len = 0 ∧ cap = 0) ∨ ∃ x, a = some x ∧ len ≤ cap ∧ cap ≤ maxLen ∧ ∀ i, i < cap → ∃ s0 s1 : ByteArray, w.cell? (x.add (i * 2)) = some (.string s0) ∧ w.cell? (x.add (i * 2 + 1)) = some (.string s1) ∧ s0.size ≤ maxLen ∧ s1.size ≤ maxLen
structure Prs (w : World) (a : Option Addr) (len : Nat) (L : List (Bs × Bs)) : Prop where
  length : L.length = len
  none : a = none → len = 0
  cell : ∀ x, a = some x → ∀ i (h : i < L.length), w.cell? (x.add (i * 2)) = some (S (L[i]).1) ∧ w.cell? (x.add (i * 2 + 1)) = some (S (L[i]).2) ∧ x.block < w.heap.size
  small : ∀ y ∈ L, y.1.length ≤ maxLen ∧ y.2.length ≤ maxLen
theorem IsPrs.prs {w : World} {a : Option Addr} {len cap : Nat} (h : IsPrs w a len cap) : ∃ L, Prs w a len L ∧ len ≤ maxLen := by
  rcases h with ⟨rfl, rfl, rfl⟩ | ⟨x, rfl, hl, hm, hc⟩
  · exact ⟨[], ⟨rfl, fun _ => rfl, fun x hx => (by cases hx), fun y hy => (by cases hy)⟩, by unfold maxLen; omega⟩
  · have step : ∀ n, n ≤ len → ∃ L : List (Bs × Bs), L.length = n ∧ (∀ i (h : i < L.length), w.cell? (x.add (i * 2)) = some (S (L[i]).1) ∧ w.cell? (x.add (i * 2 + 1)) = some (S (L[i]).2) ∧ x.block < w.heap.size) ∧ ∀ y ∈ L, y.1.length ≤ maxLen ∧ y.2.length ≤ maxLen := by
      intro n
      induction n with
      | zero => intro _; exact ⟨[], rfl, fun i h => (by simp at h), fun y hy => (by cases hy)⟩
      | succ n ih =>
        intro hn
        obtain ⟨L, h1, h2, h3⟩ := ih (by omega)
        obtain ⟨s0, s1, c0, c1, z0, z1⟩ := hc n (by omega)
        have hb := cellB_lt c0
        rw [addB_block] at hb
        refine ⟨L ++ [(s0.data.toList, s1.data.toList)], by simp [h1], fun i hi => ?_, fun y hy => ?_⟩
        · by_cases hi2 : i < L.length
          · rw [List.getElem_append_left hi2]
            exact h2 i hi2
          · obtain rfl : i = n := by simp at hi; omega
            subst h1
            simp only [List.getElem_concat_length]
            refine ⟨?_, ?_, hb⟩
            · rw [c0]; show some (Value.string s0) = some (.string (bs s0.data.toList)); rw [← bs_eta]
            · rw [c1]; show some (Value.string s1) = some (.string (bs s1.data.toList)); rw [← bs_eta]
        · rcases List.mem_append.1 hy with h4 | h4
          · exact h3 y h4
          · simp at h4
            subst h4
            have e0 : s0.size = s0.data.toList.length := Array.length_toList.symm
            have e1 : s1.size = s1.data.toList.length := Array.length_toList.symm
            exact ⟨by show s0.data.toList.length ≤ maxLen; omega, by show s1.data.toList.length ≤ maxLen; omega⟩
    obtain ⟨L, h1, h2, h3⟩ := step len (Nat.le_refl _)
    exact ⟨L, ⟨h1, fun hx => (by cases hx), fun y hy i hi => (by cases hy; exact h2 i hi), h3⟩, by omega⟩
theorem Prs.keep {w w' : World} {a : Option Addr} {len : Nat} {L : List (Bs × Bs)} (h : Prs w a len L) (hb : Below w.heap.size w w') : Prs w' a len L := by
  refine ⟨h.length, h.none, fun x hx i hi => ?_, h.small⟩
  obtain ⟨h1, h2, h3⟩ := h.cell x hx i hi
  exact ⟨by rw [Below.cell hb (p := x.add (i * 2)) (by rw [addB_block]; exact h3)]; exact h1, by rw [Below.cell hb (p := x.add (i * 2 + 1)) (by rw [addB_block]; exact h3)]; exact h2, Nat.lt_of_lt_of_le h3 hb.size⟩
end Go.Esc
