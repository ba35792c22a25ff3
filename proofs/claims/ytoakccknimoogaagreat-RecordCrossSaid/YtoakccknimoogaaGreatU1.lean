/- The document's In, in plain Lean: a list of numbers and texts that holds what a map holds. -/
import Derived.Test.YtoakccknimoogaaGreatT18
set_option linter.unusedSimpArgs false
set_option linter.unusedVariables false
namespace Go.Esc
open Go Go.RowKit Go.Proofs.YtoakccknimoogaaGreat
/-- The place of a number; -1. -/
def posV (l : List (Nat × Bs)) (q : Nat) : Int := match l.findIdx? (fun x => x.1 == q) with
  | some i => (i : Int)
  | none => -1
theorem posV_at {l : List (Nat × Bs)} {q k : Nat} (hk : k < l.length) (h : ∀ j (hj : j < k), (l[j]'(Nat.lt_trans hj hk)).1 ≠ q) (he : (l[k]).1 = q) : posV l q = k := by
  unfold posV
  have : l.findIdx? (fun x => x.1 == q) = some k := List.findIdx?_eq_some_iff_getElem.2 ⟨hk, by simpa using he, fun j hj => by simpa using h j hj⟩
  rw [this]
theorem posV_no {l : List (Nat × Bs)} {q : Nat} (h : ∀ j (hj : j < l.length), (l[j]).1 ≠ q) : posV l q = -1 := by
  unfold posV
  have : l.findIdx? (fun x => x.1 == q) = none := by
    rw [List.findIdx?_eq_none_iff]
    intro x hx
    obtain ⟨j, hj, rfl⟩ := List.getElem_of_mem hx
    simpa using h j hj
  rw [this]
/-- The list holds what the map holds. -/
structure Lk (l : List (Nat × Bs)) (f : Nat → Option Bs) : Prop where
  mem : ∀ k t, (k, t) ∈ l ↔ f k = some t
  nd : (l.map Prod.fst).Nodup
theorem Lk.nil : Lk [] (fun _ => none) := ⟨fun k t => by simp, by simp⟩
theorem Lk.none_pos {l : List (Nat × Bs)} {f : Nat → Option Bs} (h : Lk l f) {q : Nat} (hq : f q = none) : posV l q = -1 := posV_no fun j hj e => by
  have h1 := (h.mem (l[j]).1 (l[j]).2).1 (List.getElem_mem hj)
  rw [e, hq] at h1; cases h1
theorem Lk.uniq {l : List (Nat × Bs)} {f : Nat → Option Bs} (h : Lk l f) {i j : Nat} (hi : i < l.length) (hj : j < l.length) (e : (l[i]).1 = (l[j]).1) : i = j := by
  have hp := List.pairwise_iff_getElem.1 h.nd
  rcases Nat.lt_trichotomy i j with h1 | h1 | h1
  · exact absurd (by rw [List.getElem_map, List.getElem_map]; exact e) (hp i j (by simpa using hi) (by simpa using hj) h1)
  · exact h1
  · exact absurd (by rw [List.getElem_map, List.getElem_map]; exact e.symm) (hp j i (by simpa using hj) (by simpa using hi) h1)
theorem Lk.some_pos {l : List (Nat × Bs)} {f : Nat → Option Bs} (h : Lk l f) {q : Nat} {t : Bs} (hq : f q = some t) : ∃ (i : Nat) (hi : i < l.length), posV l q = i ∧ l[i] = (q, t) := by
  obtain ⟨i, hi, he⟩ := List.getElem_of_mem ((h.mem q t).2 hq)
  refine ⟨i, hi, posV_at hi (fun j hj e => ?_) (by rw [he]), he⟩
  have := h.uniq (Nat.lt_trans hj hi) hi (by rw [e, he])
  omega
theorem Lk.add {l : List (Nat × Bs)} {f : Nat → Option Bs} (h : Lk l f) {q : Nat} {t : Bs} (hq : f q = none) : Lk (l ++ [(q, t)]) (updF f q (some t)) := by
  refine ⟨fun k u => ?_, ?_⟩
  · rw [List.mem_append, h.mem, List.mem_singleton]
    unfold updF
    by_cases hk : k = q
    · subst hk
      rw [if_pos rfl, hq]
      constructor
      · rintro (h1 | h1)
        · cases h1
        · cases h1; rfl
      · intro h1; right; simp at h1; rw [h1]
    · rw [if_neg hk]
      constructor
      · rintro (h1 | h1)
        · exact h1
        · cases h1; exact absurd rfl hk
      · exact fun h1 => .inl h1
  · rw [List.map_append, List.nodup_append]
    refine ⟨h.nd, by simp, fun a ha b hb e => ?_⟩
    simp at hb
    obtain ⟨x, hx, rfl⟩ := List.mem_map.1 ha
    have h1 := (h.mem x.1 x.2).1 hx
    rw [e, hb, hq] at h1; cases h1
def cutI (l : List (Nat × Bs)) (i : Nat) : List (Nat × Bs) := l.take i ++ l.drop (i+1)
theorem Lk.del {l : List (Nat × Bs)} {f : Nat → Option Bs} (h : Lk l f) {i : Nat} (hi : i < l.length) : Lk (cutI l i) (updF f (l[i]).1 none) := by
  have hs : l = l.take i ++ l[i] :: l.drop (i+1) := by
    rw [← List.drop_eq_getElem_cons hi]; exact (List.take_append_drop i l).symm
  have hnd := h.nd
  rw [hs, List.map_append, List.map_cons, List.nodup_append] at hnd
  obtain ⟨n1, n2, n3⟩ := hnd
  rw [List.nodup_cons] at n2
  refine ⟨fun k u => ?_, ?_⟩
  · unfold updF cutI
    rw [List.mem_append]
    by_cases hk : k = (l[i]).1
    · rw [if_pos hk]
      refine ⟨fun h1 => ?_, fun h1 => by cases h1⟩
      rcases h1 with h1 | h1
      · exact absurd hk (n3 k (List.mem_map.2 ⟨_, h1, rfl⟩) _ (by simp))
      · exact absurd (List.mem_map.2 ⟨_, h1, hk⟩) n2.1
    · rw [if_neg hk, ← h.mem k u]
      constructor
      · intro h1
        rw [hs, List.mem_append, List.mem_cons]
        rcases h1 with h1 | h1
        · exact .inl h1
        · exact .inr (.inr h1)
      · intro h1
        rw [hs, List.mem_append, List.mem_cons] at h1
        rcases h1 with h1 | h1 | h1
        · exact .inl h1
        · exact absurd (by rw [← h1]) hk
        · exact .inr h1
  · unfold cutI
    rw [List.map_append, List.nodup_append]
    exact ⟨n1, n2.2, fun a ha b hb => n3 a ha b (List.mem_cons_of_mem _ hb)⟩
theorem cutI_length {l : List (Nat × Bs)} {i : Nat} (hi : i < l.length) : (cutI l i).length = l.length - 1 := by
  unfold cutI; simp; omega
theorem updF_cut (f : Nat → Option Bs) (n : Nat) : updF (cutF f n) n none = cutF f (n+1) := by
  funext k
  unfold updF cutF
  by_cases h : k = n
  · rw [if_pos h, if_pos (by omega)]
  · rw [if_neg h]
    by_cases h2 : k < n
    · rw [if_pos h2, if_pos (by omega)]
    · rw [if_neg h2, if_neg (by omega)]
def seqV (l : List (Nat × Bs)) : List Value := l.map fun x => .int .i64 (x.1 : Int)
def txtV (l : List (Nat × Bs)) : List Value := l.map fun x => S x.2
theorem seqV_length (l : List (Nat × Bs)) : (seqV l).length = l.length := by simp [seqV]
theorem txtV_length (l : List (Nat × Bs)) : (txtV l).length = l.length := by simp [txtV]
end Go.Esc
