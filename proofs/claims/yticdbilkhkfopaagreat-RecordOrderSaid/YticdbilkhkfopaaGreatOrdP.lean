/- Records in whatever order, in plain Lean. -/
import Derived.Test.YticdbilkhkfopaaGreatT18
namespace Go.Esc
open Go Go.RowKit Go.Proofs.YticdbilkhkfopaaGreat
theorem pig : ∀ (k m : Nat) (t : Nat → Nat), (∀ i j, i < m → j < m → t i = t j → i = j) → (∀ i, i < m → t i < k) → m ≤ k
  | 0, m, t, _, h => by
    rcases Nat.eq_zero_or_pos m with h0 | h0
    · omega
    · have := h 0 h0; omega
  | k+1, m, t, hi, h => by
    by_cases he : ∃ i, i < m ∧ t i = k
    · obtain ⟨i0, h0, e0⟩ := he
      have := pig k (m-1) (fun i => t (if i < i0 then i else i+1)) (fun i j hi' hj' e => by
        have := hi (if i < i0 then i else i+1) (if j < i0 then j else j+1) (by split <;> omega) (by split <;> omega) e
        split at this <;> split at this <;> omega) (fun i hi' => by
        have h1 := h (if i < i0 then i else i+1) (by split <;> omega)
        have h2 : t (if i < i0 then i else i+1) ≠ k := fun e => by
          have := hi (if i < i0 then i else i+1) i0 (by split <;> omega) h0 (by rw [e, e0])
          split at this <;> omega
        show t (if i < i0 then i else i+1) < k
        omega)
      omega
    · have := pig k m t hi (fun i hi' => by
        have h1 := h i hi'
        have h2 : t i ≠ k := fun e => he ⟨i, hi', e⟩
        omega)
      omega
/-- Which record lies where, and where which one lies. -/
structure Per (n : Nat) (s t : Nat → Nat) : Prop where
  sl : ∀ i, i < n → s i < n
  tl : ∀ i, i < n → t i < n
  st : ∀ i, i < n → s (t i) = i
  ts : ∀ i, i < n → t (s i) = i
theorem Per.id (n : Nat) : Per n (fun i => i) (fun i => i) := ⟨fun _ h => h, fun _ h => h, fun _ _ => rfl, fun _ _ => rfl⟩
def swp (a b i : Nat) : Nat := if i = a then b else if i = b then a else i
theorem swp_swp (a b i : Nat) : swp a b (swp a b i) = i := by
  unfold swp
  repeat' split
  all_goals simp_all
theorem swp_lt {a b i n : Nat} (ha : a < n) (hb : b < n) (h : i < n) : swp a b i < n := by
  unfold swp
  split
  · exact hb
  · split
    · exact ha
    · exact h
theorem Per.swap {n : Nat} {s t : Nat → Nat} (h : Per n s t) {a b : Nat} (ha : a < n) (hb : b < n) : Per n (fun i => s (swp a b i)) (fun i => swp a b (t i)) :=
  ⟨fun i hi => h.sl _ (swp_lt ha hb hi), fun i hi => swp_lt ha hb (h.tl i hi), fun i hi => by simp only [swp_swp]; exact h.st i hi, fun i hi => by simp only [h.ts _ (swp_lt ha hb hi), swp_swp]⟩
theorem set_swap {α : Type} (n : Nat) (f : Nat → α) {a b : Nat} (ha : a < n) (hb : b < n) : (((List.range n).map f).set a (f b)).set b (f a) = (List.range n).map (fun i => f (swp a b i)) := by
  apply List.ext_getElem?
  intro i
  by_cases hi : i < n
  · rw [List.getElem?_map, List.getElem?_range hi]
    by_cases hib : i = b
    · subst hib
      rw [List.getElem?_set_self (by simp; exact hi)]
      unfold swp
      by_cases hia : i = a
      · subst hia; simp
      · simp [hia]
    · rw [List.getElem?_set_ne (by omega)]
      by_cases hia : i = a
      · subst hia
        rw [List.getElem?_set_self (by simp; exact hi)]
        simp [swp]
      · rw [List.getElem?_set_ne (by omega), List.getElem?_map, List.getElem?_range hi]
        simp [swp, hia, hib]
  · rw [List.getElem?_eq_none (by simp; omega), List.getElem?_eq_none (by simp; omega)]
def txO (k : Nat) : Bs := [116, UInt8.ofNat k]
/-- What waits when k of n were opened and those before N are told. -/
def waitF (n k N : Nat) (t : Nat → Nat) : Nat → Option Bs := fun j => if N ≤ j ∧ j < n ∧ t j < k then some (txO j) else none
/-- N is the first that was not opened, of the first k. -/
structure First (n k N : Nat) (t : Nat → Nat) : Prop where
  le : N ≤ n
  all : ∀ j, j < N → t j < k
  next : N < n → k ≤ t N
def ordS (n k N : Nat) (t : Nat → Nat) : InS := ⟨N, waitF n k N t, k - N⟩
theorem First.le_k {n k N : Nat} {s t : Nat → Nat} (hp : Per n s t) (h : First n k N t) : N ≤ k :=
  pig k N t (fun i j hi hj e => by
    have := h.le
    have h1 := hp.st i (by omega)
    have h2 := hp.st j (by omega)
    rw [e] at h1; omega) h.all
theorem ordS_ok {n k N : Nat} {s t : Nat → Nat} (_ : Per n s t) (h : First n k N t) (hn : n ≤ 60) : (ordS n k N t).Ok := by
  refine ⟨fun j hj => ?_, by have := h.le; simp only [ordS]; omega⟩
  simp only [ordS, waitF] at hj ⊢
  split at hj
  · next hc =>
    have : N ≠ j := fun e => by
      have := h.next (by omega)
      rw [e] at this; omega
    omega
  · cases hj
theorem ord_step (key : Bs) (hk : key.length = 32) {n k N : Nat} {s t : Nat → Nat} (hp : Per n s t) (h : First n k N t) (hn : n ≤ 60) (hkn : k < n) :
    ∃ N', N ≤ N' ∧ First n (k+1) N' t ∧ openS key (ordS n k N t) (recL key (s k) (txO (s k))) = (0, (List.range (N' - N)).map (fun j => txO (N + j)), ordS n (k+1) N' t) ∧
      openS key (ordS n (k+1) N' t) (recL key (s k) (txO (s k))) = (4, [], ordS n (k+1) N' t) := by
  obtain ⟨q, hq⟩ : ∃ q, q = s k := ⟨_, rfl⟩
  have hqn : q < n := by rw [hq]; exact hp.sl k hkn
  have htq : t q = k := by rw [hq]; exact hp.ts k hkn
  have hNq : N ≤ q := by
    rcases Nat.lt_or_ge q N with h1 | h1
    · have := h.all q h1; omega
    · exact h1
  rw [← hq]
  obtain ⟨pp, hpp⟩ : ∃ pp, padL (txO q) = some pp := by
    unfold padL txO
    rw [padSize_32 (by simp) (by simp)]; exact ⟨_, rfl⟩
  have hup : updF (waitF n k N t) q (some (txO q)) = waitF n (k+1) N t := by
    funext j
    unfold updF waitF
    by_cases hj : j = q
    · subst hj
      rw [if_pos rfl, if_pos (by omega)]
    · rw [if_neg hj]
      by_cases hc : N ≤ j ∧ j < n ∧ t j < k
      · rw [if_pos hc, if_pos (by omega)]
      · rw [if_neg hc, if_neg]
        rintro ⟨h1, h2, h3⟩
        have : t j ≠ k := fun e => hj (by rw [← hp.st j h2, e, hq])
        omega
  have hend : waitF n (k+1) N t (N + 1000) = none := by unfold waitF; rw [if_neg (by omega)]
  have hrun := runF_is (waitF n (k+1) N t) 1000 N hend
  obtain ⟨out, hout⟩ : ∃ out, out = runF (waitF n (k+1) N t) N 1000 := ⟨_, rfl⟩
  rw [← hout] at hrun
  have hat : ∀ j, j < out.length → N + j < n ∧ t (N + j) < k + 1 ∧ out[j]? = some (txO (N + j)) := fun j hj => by
    have h1 := hrun.1 j hj
    rw [List.getElem?_eq_getElem hj] at h1 ⊢
    unfold waitF at h1
    split at h1
    · next hc => exact ⟨hc.2.1, hc.2.2, h1.symm⟩
    · cases h1
  have hF : First n (k+1) (N + out.length) t := by
    refine ⟨?_, fun j hj => ?_, fun hlt => ?_⟩
    · rcases Nat.eq_zero_or_pos out.length with h0 | h0
      · have := h.le; omega
      · have := (hat (out.length - 1) (by omega)).1; omega
    · rcases Nat.lt_or_ge j N with h1 | h1
      · have := h.all j h1; omega
      · have := (hat (j - N) (by omega)).2.1
        rw [show N + (j - N) = j by omega] at this
        exact this
    · have h1 := hrun.2
      unfold waitF at h1
      split at h1
      · cases h1
      · next hc =>
        have : ¬ (t (N + out.length) < k + 1) := fun h9 => hc ⟨by omega, hlt, h9⟩
        omega
  have hoe : out = (List.range (N + out.length - N)).map (fun j => txO (N + j)) := by
    apply List.ext_getElem?
    intro j
    by_cases hj : j < out.length
    · rw [(hat j hj).2.2, List.getElem?_map, List.getElem?_range (by omega)]; rfl
    · rw [List.getElem?_eq_none (by omega), List.getElem?_eq_none (by simp; omega)]
  have hcut : cutF (waitF n (k+1) N t) (N + out.length) = waitF n (k+1) (N + out.length) t := by
    funext j
    unfold cutF waitF
    by_cases hj : j < N + out.length
    · rw [if_pos hj, if_neg (by omega)]
    · rw [if_neg hj]
      by_cases hc : j < n ∧ t j < k + 1
      · rw [if_pos ⟨by omega, hc⟩, if_pos ⟨by omega, hc⟩]
      · rw [if_neg (fun h9 => hc h9.2), if_neg (fun h9 => hc h9.2)]
  have hle := h.le_k hp
  have hw : waitF n k N t q = none := by unfold waitF; rw [if_neg (by omega)]
  refine ⟨N + out.length, by omega, hF, ?_, ?_⟩
  · have := openS_run key (ordS n k N t) q (txO q) pp hk hpp (by omega) hNq (by simp only [ordS]; omega) hw out (by rw [show (ordS n k N t).f = waitF n k N t from rfl, hup]; exact hrun) (ordS_ok hp h hn)
    rw [this]
    simp only [ordS]
    rw [hup, hcut, ← hoe]
    have : k - N + 1 - out.length = k + 1 - (N + out.length) := by omega
    rw [this]
  · rw [openS_recL key _ q (txO q) pp hk hpp (by omega), if_pos]
    simp only [ordS]
    by_cases h1 : q < N + out.length
    · exact .inl h1
    · refine .inr (.inr ?_)
      unfold waitF
      rw [if_pos (by omega)]; rfl
theorem ord_start (n : Nat) (t : Nat → Nat) : First n 0 0 t ∧ ordS n 0 0 t = inOrd 0 := by
  refine ⟨⟨by omega, fun j hj => by omega, fun _ => by omega⟩, ?_⟩
  unfold ordS inOrd
  congr 1
  funext j
  unfold waitF
  rw [if_neg (by omega)]
theorem ord_end {n N : Nat} {s t : Nat → Nat} (hp : Per n s t) (h : First n n N t) : N = n := by
  rcases Nat.lt_or_ge N n with h1 | h1
  · have := h.next h1
    have := hp.tl N h1
    omega
  · have := h.le; omega
end Go.Esc
