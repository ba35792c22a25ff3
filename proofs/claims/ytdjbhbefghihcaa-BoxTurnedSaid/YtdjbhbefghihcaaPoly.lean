/- Poly1305 in plain Lean: what the document computes, and that limbs of 26 bits and digits of 8 bits come to it. -/
import Derived.Test.YtdjbhbefghihcaaPure
namespace Go.Esc
def polyP : Nat := 1361129467683753853853498429727072845819
theorem polyP_eq : polyP = 2 ^ 130 - 5 := by decide
def clampB (i : Nat) (c : UInt8) : UInt8 := if i = 3 ∨ i = 7 ∨ i = 11 ∨ i = 15 then c &&& 15 else if i = 4 ∨ i = 8 ∨ i = 12 then c &&& 252 else c
/-- the first k of 16 bytes without some bits -/
def clampL (key : Bs) : Bs := (List.range 16).map fun i => clampB i (key.getD i 0)
def pstep (r acc : Nat) (l : Bs) : Nat := (acc + leN (l ++ [1])) * r % polyP
/-- n blocks of l -/
def polyN (r acc : Nat) (l : Bs) : Nat → Nat
  | 0 => acc
  | n+1 => polyN r (pstep r acc (l.take 16)) (l.drop 16) n
def polyF (r acc : Nat) (l : Bs) : Nat := polyN r acc l ((l.length + 15) / 16)
def tagL (key b : Bs) : Bs := putL ((polyF (leN (clampL key)) 0 b + leN ((key.drop 16).take 16)) % 2 ^ 128) 16
theorem polyF_nil (r acc : Nat) : polyF r acc [] = acc := rfl
theorem polyF_step (r acc : Nat) (l : Bs) (h : 0 < l.length) : polyF r acc l = polyF r (pstep r acc (l.take 16)) (l.drop 16) := by
  unfold polyF
  obtain ⟨n, hn⟩ : ∃ n, (l.length + 15) / 16 = n + 1 := ⟨(l.length + 15) / 16 - 1, by omega⟩
  have h2 : ((l.drop 16).length + 15) / 16 = n := by simp; omega
  rw [hn, h2]; rfl
theorem pstep_mod (r acc : Nat) (l : Bs) : pstep r (acc % polyP) l = pstep r acc l := by
  unfold pstep
  rw [Nat.mul_mod, Nat.mod_add_mod, ← Nat.mul_mod]
theorem pstep_lt (r acc : Nat) (l : Bs) : pstep r acc l < polyP := Nat.mod_lt _ (by decide)
/-! Limbs. -/
abbrev limbM : Nat := 67108864
def val5 (l : List Nat) : Nat := l.getD 0 0 + 67108864 * l.getD 1 0 + 4503599627370496 * l.getD 2 0 + 302231454903657293676544 * l.getD 3 0 + 20282409603651670423947251286016 * l.getD 4 0
/-- i limbs carried -/
def cr (l : List Nat) (c0 : Nat) : Nat → List Nat × Nat
  | 0 => (l, c0)
  | i+1 => let m := cr l c0 i; let v := m.1.getD i 0 + m.2; (m.1.set i (v % 67108864), v / 67108864)
def pass (l : List Nat) : List Nat := let m := cr l 0 5; m.1.set 0 (m.1.getD 0 0 + m.2 * 5)
def passes (l : List Nat) : Nat → List Nat
  | 0 => l
  | n+1 => pass (passes l n)
def carryN (l : List Nat) : List Nat := passes l 3
theorem cr_length (l : List Nat) (c0 i : Nat) : (cr l c0 i).1.length = l.length := by
  induction i with
  | zero => rfl
  | succ i ih => simp [cr, ih]
theorem pass_length (l : List Nat) : (pass l).length = l.length := by simp [pass, cr_length]
theorem passes_length (l : List Nat) (n : Nat) : (passes l n).length = l.length := by
  induction n with
  | zero => rfl
  | succ n ih => simp [passes, pass_length, ih]
def cr5 (a b c d e c0 : Nat) : List Nat × Nat :=
  ([(a + c0) % 67108864, (b + (a + c0) / 67108864) % 67108864, (c + (b + (a + c0) / 67108864) / 67108864) % 67108864, (d + (c + (b + (a + c0) / 67108864) / 67108864) / 67108864) % 67108864, (e + (d + (c + (b + (a + c0) / 67108864) / 67108864) / 67108864) / 67108864) % 67108864], (e + (d + (c + (b + (a + c0) / 67108864) / 67108864) / 67108864) / 67108864) / 67108864)
theorem cr_five (a b c d e c0 : Nat) : cr [a, b, c, d, e] c0 5 = cr5 a b c d e c0 := by
  simp [cr, cr5]
theorem five (l : List Nat) (h : l.length = 5) : ∃ a b c d e, l = [a, b, c, d, e] := by
  match l, h with
  | [a, b, c, d, e], _ => exact ⟨a, b, c, d, e, rfl⟩
/-- all limbs are at the most b -/
def Le5 (b : Nat) (l : List Nat) : Prop := l.length = 5 ∧ ∀ x ∈ l, x ≤ b
theorem cr_val (l : List Nat) (c0 : Nat) (h : l.length = 5) : val5 (cr l c0 5).1 + (cr l c0 5).2 * 2 ^ 130 = val5 l + c0 := by
  obtain ⟨a, b, c, d, e, rfl⟩ := five l h
  rw [cr_five]
  simp only [cr5, val5, List.getD_cons_zero, List.getD_cons_succ]
  omega
theorem pass_val (l : List Nat) (h : l.length = 5) : ∃ k, val5 (pass l) + k * polyP = val5 l := by
  refine ⟨(cr l 0 5).2, ?_⟩
  have hv := cr_val l 0 h
  have hl := cr_length l 0 5
  rw [h] at hl
  obtain ⟨a, b, c, d, e, hm⟩ := five _ hl
  simp only [pass, hm] at hv ⊢
  simp only [val5, List.set_cons_zero, List.getD_cons_zero, List.getD_cons_succ] at hv ⊢
  rw [show polyP = 2 ^ 130 - 5 from polyP_eq]
  omega
theorem passes_val (l : List Nat) (n : Nat) (h : l.length = 5) : ∃ k, val5 (passes l n) + k * polyP = val5 l := by
  induction n with
  | zero => exact ⟨0, by simp [passes]⟩
  | succ n ih =>
    obtain ⟨k, hk⟩ := ih
    obtain ⟨k2, hk2⟩ := pass_val (passes l n) (by rw [passes_length, h])
    refine ⟨k + k2, ?_⟩
    rw [passes, Nat.add_mul]; omega
theorem passes_mod (l : List Nat) (n : Nat) (h : l.length = 5) : val5 (passes l n) % polyP = val5 l % polyP := by
  obtain ⟨k, hk⟩ := passes_val l n h
  rw [← hk, Nat.add_mul_mod_self_right]
theorem getD_none (l : List Nat) (j : Nat) (h : l.length ≤ j) : l.getD j 0 = 0 := by
  rw [List.getD_eq_getElem?_getD, List.getElem?_eq_none h]; rfl
theorem cr_le (l : List Nat) (c0 B C : Nat) (hc : c0 ≤ C) (hC : B + C < 67108864 * (C + 1)) (h : Le5 B l) (i : Nat) (hi : i ≤ 5) :
    (∀ j, j < i → (cr l c0 i).1.getD j 0 < 67108864) ∧ (∀ j, i ≤ j → (cr l c0 i).1.getD j 0 ≤ B) ∧ (cr l c0 i).2 ≤ C := by
  induction i with
  | zero =>
    refine ⟨fun j h => absurd h (by omega), fun j _ => ?_, hc⟩
    by_cases hj : j < l.length
    · simp only [cr, List.getD_eq_getElem?_getD, List.getElem?_eq_getElem hj]; exact h.2 _ (List.getElem_mem hj)
    · simp only [cr]; rw [getD_none l j (by omega)]; exact Nat.zero_le _
  | succ i ih =>
    obtain ⟨h1, h2, h3⟩ := ih (by omega)
    have hl : (cr l c0 i).1.length = 5 := by rw [cr_length]; exact h.1
    have h4 := h2 i (by omega)
    have hg : ∀ j, (cr l c0 (i+1)).1.getD j 0 = if j = i then ((cr l c0 i).1.getD i 0 + (cr l c0 i).2) % 67108864 else (cr l c0 i).1.getD j 0 := by
      intro j
      simp only [cr, List.getD_eq_getElem?_getD, List.getElem?_set]
      by_cases hji : i = j
      · subst hji; simp [hl, show i < 5 by omega]
      · simp [hji, show ¬ j = i by omega]
    refine ⟨fun j hj => ?_, fun j hj => ?_, ?_⟩
    · rw [hg]
      split
      · exact Nat.mod_lt _ (by decide)
      · exact h1 j (by omega)
    · rw [hg, if_neg (by omega)]; exact h2 j (by omega)
    · show ((cr l c0 i).1.getD i 0 + (cr l c0 i).2) / 67108864 ≤ _
      omega
theorem getD_le {l : List Nat} {b : Nat} (h : Le5 b l) (j : Nat) : l.getD j 0 ≤ b := by
  by_cases hj : j < l.length
  · simp only [List.getD_eq_getElem?_getD, List.getElem?_eq_getElem hj]; exact h.2 _ (List.getElem_mem hj)
  · rw [getD_none l j (by omega)]; exact Nat.zero_le _
theorem le5_of {b : Nat} {l : List Nat} (h : l.length = 5) (hj : ∀ j, j < 5 → l.getD j 0 ≤ b) : Le5 b l := by
  refine ⟨h, fun x hx => ?_⟩
  obtain ⟨j, hj', rfl⟩ := List.getElem_of_mem hx
  have := hj j (by omega)
  rwa [List.getD_eq_getElem?_getD, List.getElem?_eq_getElem hj'] at this
theorem Le5.mono {a b : Nat} {l : List Nat} (h : Le5 a l) (hab : a ≤ b) : Le5 b l := ⟨h.1, fun x hx => Nat.le_trans (h.2 x hx) hab⟩
/-- one pass lowers the limbs -/
theorem pass_le (l : List Nat) (B : Nat) (h : Le5 B l) : Le5 (67108863 + (B / 67108863 + 1) * 5) (pass l) := by
  obtain ⟨h1, _, h3⟩ := cr_le l 0 B (B / 67108863 + 1) (by omega) (by omega) h 5 (by omega)
  refine le5_of (by rw [pass_length, h.1]) fun j hj => ?_
  have hl : (cr l 0 5).1.length = 5 := by rw [cr_length]; exact h.1
  have e : (pass l).getD j 0 = if j = 0 then (cr l 0 5).1.getD 0 0 + (cr l 0 5).2 * 5 else (cr l 0 5).1.getD j 0 := by
    simp only [pass, List.getD_eq_getElem?_getD, List.getElem?_set]
    by_cases hj0 : 0 = j
    · subst hj0; simp [hl]
    · simp [hj0, show ¬ j = 0 by omega]
  rw [e]
  split
  · have := h1 0 (by omega); omega
  · have := h1 j (by omega); omega
/-- the third pass brings all limbs below 2 to the 26th -/
theorem pass_small (l : List Nat) (h : Le5 67108868 l) (h1 : ∀ j, 0 < j → l.getD j 0 ≤ 67108863) : Le5 67108863 (pass l) := by
  obtain ⟨a, b, c, d, e, rfl⟩ := five l h.1
  have ha := getD_le h 0
  have hb := h1 1 (by omega)
  have hc := h1 2 (by omega)
  have hd := h1 3 (by omega)
  have he := h1 4 (by omega)
  simp only [List.getD_cons_zero, List.getD_cons_succ] at ha hb hc hd he
  refine le5_of (by rw [pass_length]; rfl) fun j hj => ?_
  simp only [pass, cr_five, cr5, List.set_cons_zero, List.getD_cons_zero]
  match j, hj with
  | 0, _ => simp only [List.getD_cons_zero]; omega
  | 1, _ => simp only [List.getD_cons_zero, List.getD_cons_succ]; omega
  | 2, _ => simp only [List.getD_cons_zero, List.getD_cons_succ]; omega
  | 3, _ => simp only [List.getD_cons_zero, List.getD_cons_succ]; omega
  | 4, _ => simp only [List.getD_cons_zero, List.getD_cons_succ]; omega
theorem pass_mid (l : List Nat) (h : Le5 (67108863 + 68719477761 * 5) l) (h1 : ∀ j, 0 < j → l.getD j 0 ≤ 67108863) : Le5 67108868 (pass l) ∧ ∀ j, 0 < j → (pass l).getD j 0 ≤ 67108863 := by
  obtain ⟨a, b, c, d, e, rfl⟩ := five l h.1
  have ha := getD_le h 0
  have hb := h1 1 (by omega)
  have hc := h1 2 (by omega)
  have hd := h1 3 (by omega)
  have he := h1 4 (by omega)
  simp only [List.getD_cons_zero, List.getD_cons_succ] at ha hb hc hd he
  have hj : ∀ j, j < 5 → (pass [a, b, c, d, e]).getD j 0 ≤ 67108868 ∧ (0 < j → (pass [a, b, c, d, e]).getD j 0 ≤ 67108863) := by
    intro j hj
    simp only [pass, cr_five, cr5, List.set_cons_zero, List.getD_cons_zero]
    match j, hj with
    | 0, _ => simp only [List.getD_cons_zero]; omega
    | 1, _ => simp only [List.getD_cons_zero, List.getD_cons_succ]; omega
    | 2, _ => simp only [List.getD_cons_zero, List.getD_cons_succ]; omega
    | 3, _ => simp only [List.getD_cons_zero, List.getD_cons_succ]; omega
    | 4, _ => simp only [List.getD_cons_zero, List.getD_cons_succ]; omega
  refine ⟨le5_of (by rw [pass_length]; rfl) fun j h => (hj j h).1, fun j h0 => ?_⟩
  by_cases h5 : j < 5
  · exact (hj j h5).2 h0
  · rw [List.getD_eq_getElem?_getD, List.getElem?_eq_none (by rw [pass_length]; simp; omega)]; exact Nat.zero_le _
theorem pass_first (l : List Nat) (h : Le5 4611686018427387903 l) : Le5 (67108863 + 68719477761 * 5) (pass l) ∧ ∀ j, 0 < j → (pass l).getD j 0 ≤ 67108863 := by
  refine ⟨(pass_le l _ h).mono (by decide), fun j hj => ?_⟩
  obtain ⟨h1, _, _⟩ := cr_le l 0 _ 68719477761 (by omega) (by omega) h 5 (by omega)
  have hl : (cr l 0 5).1.length = 5 := by rw [cr_length]; exact h.1
  have e : (pass l).getD j 0 = (cr l 0 5).1.getD j 0 := by
    simp only [pass, List.getD_eq_getElem?_getD, List.getElem?_set]
    simp [show ¬ 0 = j by omega]
  rw [e]
  by_cases h5 : j < 5
  · have := h1 j h5; omega
  · rw [getD_none _ j (by omega)]; exact Nat.zero_le _
theorem carry_small (l : List Nat) (h : Le5 4611686018427387903 l) : Le5 67108863 (carryN l) := by
  obtain ⟨a1, a2⟩ := pass_first l h
  obtain ⟨b1, b2⟩ := pass_mid _ a1 a2
  exact pass_small _ b1 b2
/-- bounds of each state of a carry -/
theorem passes_le (l : List Nat) (h : Le5 4611686018427387903 l) (n : Nat) : Le5 4611686018427387903 (passes l n) := by
  induction n with
  | zero => exact h
  | succ n ih => exact (pass_le _ _ ih).mono (by decide)
theorem small_pass (l : List Nat) (h : Le5 67108863 l) : pass l = l := by
  obtain ⟨a, b, c, d, e, rfl⟩ := five l h.1
  have ha := getD_le h 0
  have hb := getD_le h 1
  have hc := getD_le h 2
  have hd := getD_le h 3
  have he := getD_le h 4
  simp only [List.getD_cons_zero, List.getD_cons_succ] at ha hb hc hd he
  simp only [pass, cr_five, cr5, List.set_cons_zero, List.getD_cons_zero]
  simp only [List.cons.injEq, and_true]
  omega
theorem small_carry (l : List Nat) (h : Le5 67108863 l) : carryN l = l := by
  simp only [carryN, passes, small_pass l h]
theorem small_val (l : List Nat) (h : Le5 67108863 l) : val5 l < 2 ^ 130 := by
  have ha := getD_le h 0
  have hb := getD_le h 1
  have hc := getD_le h 2
  have hd := getD_le h 3
  have he := getD_le h 4
  simp only [val5]; omega
/-- the number below the modulus -/
def wholeN (l : List Nat) : List Nat := let x := carryN l; let y := cr x 5 5; if 0 < y.2 then y.1 else x
theorem whole_val (l : List Nat) (h : Le5 4611686018427387903 l) : val5 (wholeN l) = val5 l % polyP ∧ Le5 67108863 (wholeN l) := by
  have hs := carry_small l h
  have hm := passes_mod l 3 h.1
  rw [← hm]
  have hx : passes l 3 = carryN l := rfl
  rw [hx]
  have hl := small_val _ hs
  have hcv := cr_val (carryN l) 5 hs.1
  have hle := cr_le (carryN l) 5 67108863 5 (by decide) (by decide) hs 5 (by omega)
  have hlen := cr_length (carryN l) 5 5
  have hsm : Le5 67108863 (cr (carryN l) 5 5).1 := le5_of (by rw [hlen]; exact hs.1) fun j hj => by have := hle.1 j hj; omega
  have hl2 := small_val _ hsm
  have hP := polyP_eq
  simp only [wholeN]
  generalize cr (carryN l) 5 5 = y at *
  generalize carryN l = x at *
  obtain ⟨y1, c⟩ := y
  simp only at *
  by_cases hc : 0 < c
  · rw [if_pos hc]
    refine ⟨?_, hsm⟩
    have hc1 : c = 1 := by
      have : c * 2 ^ 130 ≤ val5 x + 5 := by omega
      have h2 : c < 2 := by
        apply Nat.lt_of_not_le; intro h2
        have : 2 * 2 ^ 130 ≤ c * 2 ^ 130 := Nat.mul_le_mul_right _ h2
        omega
      omega
    subst hc1
    have : val5 x = val5 y1 + polyP := by omega
    rw [this, Nat.add_mod_right, Nat.mod_eq_of_lt (by omega)]
  · rw [if_neg hc]
    refine ⟨?_, hs⟩
    have hc0 : c = 0 := by omega
    subst hc0
    rw [Nat.mod_eq_of_lt (by omega)]
def plus5 (x y : List Nat) : List Nat := (List.range 5).map fun i => x.getD i 0 + y.getD i 0
theorem plus5_val (x y : List Nat) : val5 (plus5 x y) = val5 x + val5 y := by
  show val5 [_, _, _, _, _] = _
  simp only [val5, List.getD_cons_zero, List.getD_cons_succ]; omega
theorem plus5_le {a b : Nat} {x y : List Nat} (hx : Le5 a x) (hy : Le5 b y) : Le5 (a + b) (plus5 x y) := by
  refine le5_of (by simp [plus5]) fun j hj => ?_
  have := getD_le hx j; have := getD_le hy j
  simp [plus5, hj] at *; omega
/-- limbs of a number of 128 bits, and one above -/
def split5 (low high top : Nat) : List Nat := [low % 67108864, low / 67108864 % 67108864, (low / 4503599627370496 + high * 4096) % 67108864, high / 16384 % 67108864, high / 1099511627776 + top * 16777216]
theorem split5_val (low high top : Nat) (hl : low < 2 ^ 64) (hh : high < 2 ^ 64) : val5 (split5 low high top) = low + 2 ^ 64 * high + 2 ^ 128 * top := by
  simp only [val5, split5, List.getD_cons_zero, List.getD_cons_succ]; omega
theorem split5_le (low high top : Nat) (_ : high < 2 ^ 64) (_ : top ≤ 1) : Le5 67108863 (split5 low high top) := by
  refine ⟨rfl, ?_⟩
  intro x hx
  simp only [split5, List.mem_cons, List.not_mem_nil, or_false] at hx
  omega
/-- a product, not carried -/
def tm (x y : List Nat) (i j : Nat) : Nat := if j ≤ i then x.getD j 0 * y.getD (i - j) 0 else x.getD j 0 * y.getD (5 + i - j) 0 * 5
def col (x y : List Nat) (i : Nat) : Nat → Nat
  | 0 => 0
  | j+1 => col x y i j + tm x y i j
def mulAt (x y : List Nat) (i j : Nat) : List Nat := (List.range 5).map fun k => if k < i then col x y k 5 else if k = i then col x y i j else 0
def mulN (x y : List Nat) : List Nat := mulAt x y 5 0
theorem mulN_eq (x y : List Nat) : mulN x y = [col x y 0 5, col x y 1 5, col x y 2 5, col x y 3 5, col x y 4 5] := rfl
theorem tm_le {a b : Nat} {x y : List Nat} (hx : Le5 a x) (hy : Le5 b y) (i j : Nat) : tm x y i j ≤ a * b * 5 := by
  have h1 := getD_le hx j
  have h2 := getD_le hy (i - j)
  have h3 := getD_le hy (5 + i - j)
  have h4 := Nat.mul_le_mul h1 h2
  have h5 := Nat.mul_le_mul h1 h3
  simp only [tm]
  split <;> omega
theorem col_le {a b : Nat} {x y : List Nat} (hx : Le5 a x) (hy : Le5 b y) (i j : Nat) : col x y i j ≤ j * (a * b * 5) := by
  induction j with
  | zero => simp [col]
  | succ j ih => have := tm_le hx hy i j; rw [col, Nat.succ_mul]; omega
theorem mulN_le {a b : Nat} {x y : List Nat} (hx : Le5 a x) (hy : Le5 b y) : Le5 (5 * (a * b * 5)) (mulN x y) := by
  refine le5_of (by simp [mulN, mulAt]) fun j hj => ?_
  have := col_le hx hy j 5
  simp [mulN, mulAt, hj]; omega
theorem mulN_val (x y : List Nat) (hx : x.length = 5) (hy : y.length = 5) : val5 (mulN x y) % polyP = val5 x * val5 y % polyP := by
  obtain ⟨a, b, c, d, e, rfl⟩ := five x hx
  obtain ⟨a', b', c', d', e', rfl⟩ := five y hy
  have h : ∃ k, val5 [a, b, c, d, e] * val5 [a', b', c', d', e'] = val5 (mulN [a, b, c, d, e] [a', b', c', d', e']) + k * polyP := by
    refine ⟨(b * e' + c * d' + d * c' + e * b') + 67108864 * (c * e' + d * d' + e * c') + 4503599627370496 * (d * e' + e * d') + 302231454903657293676544 * (e * e'), ?_⟩
    rw [mulN_eq]
    simp only [val5, col, tm, List.getD_cons_zero, List.getD_cons_succ, polyP]
    simp
    grind
  obtain ⟨k, hk⟩ := h
  rw [hk, Nat.add_mul_mod_self_right]
/-- one block, by limbs -/
theorem limb_step (x by' : List Nat) (r acc : Nat) (l : Bs) (low high top : Nat) (hx : Le5 67108863 x) (hb : Le5 67108863 by') (hr : val5 by' = r)
    (hacc : val5 x % polyP = acc % polyP) (hl : low < 2 ^ 64) (hh : high < 2 ^ 64) (ht : top ≤ 1) (hw : low + 2 ^ 64 * high + 2 ^ 128 * top = leN (l ++ [1])) :
    let z := carryN (mulN (plus5 x (split5 low high top)) by')
    Le5 67108863 z ∧ val5 z % polyP = pstep r acc l := by
  have hs := split5_le low high top hh ht
  have hp := plus5_le hx hs
  have hm := mulN_le hp hb
  refine ⟨carry_small _ (hm.mono (by decide)), ?_⟩
  show val5 (passes _ 3) % polyP = _
  rw [passes_mod _ _ hm.1, mulN_val _ _ hp.1 hb.1, plus5_val, split5_val _ _ _ hl hh, hw, hr]
  rw [pstep, Nat.mul_mod, Nat.add_mod, hacc, ← Nat.add_mod, ← Nat.mul_mod]
end Go.Esc
