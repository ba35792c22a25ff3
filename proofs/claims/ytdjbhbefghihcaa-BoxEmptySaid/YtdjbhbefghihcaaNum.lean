/- Numbers by digits of 8 bits, in plain Lean: how the document reckons Poly1305. -/
import Derived.Test.YtdjbhbefghihcaaPoly
namespace Go.Esc
/-- the value of digits, the lowest first; a digit may be more than 255 -/
def leV : List Nat → Nat
  | [] => 0
  | c :: l => c + 256 * leV l
theorem leV_append (a b : List Nat) : leV (a ++ b) = leV a + 256 ^ a.length * leV b := by
  induction a with
  | nil => simp [leV]
  | cons c a ih => simp only [List.cons_append, leV, ih, List.length_cons, Nat.pow_succ']; rw [Nat.mul_add, Nat.mul_assoc]; omega
theorem leV_zeros (n : Nat) : leV (List.replicate n 0) = 0 := by
  induction n with
  | zero => rfl
  | succ n ih => simp [List.replicate_succ, leV, ih]
theorem leV_set (l : List Nat) (k d : Nat) (h : k < l.length) : leV (l.set k (l.getD k 0 + d)) = leV l + 256 ^ k * d := by
  induction l generalizing k with
  | nil => simp at h
  | cons c l ih =>
    cases k with
    | zero => simp [leV]; omega
    | succ k =>
      simp only [List.length_cons] at h
      have := ih k (by omega)
      simp only [List.set_cons_succ, List.getD_cons_succ, leV, this, Nat.pow_succ', Nat.mul_add, Nat.mul_assoc]; omega
theorem leV_take_succ (l : List Nat) (k : Nat) (h : k < l.length) : leV (l.take (k+1)) = leV (l.take k) + 256 ^ k * l.getD k 0 := by
  rw [List.take_succ_eq_append_getElem h, leV_append, List.length_take, Nat.min_eq_left (Nat.le_of_lt h)]
  simp [leV, List.getD_eq_getElem?_getD, List.getElem?_eq_getElem h]
theorem leV_take_drop (l : List Nat) (k : Nat) (h : k ≤ l.length) : leV l = leV (l.take k) + 256 ^ k * leV (l.drop k) := by
  conv => lhs; rw [← List.take_append_drop k l]
  rw [leV_append, List.length_take, Nat.min_eq_left h]
theorem leV_lt {l : List Nat} (h : ∀ x ∈ l, x < 256) : leV l < 256 ^ l.length := by
  induction l with
  | nil => simp [leV]
  | cons c l ih =>
    have h1 := h c (by simp)
    have h2 := ih fun x hx => h x (by simp [hx])
    simp only [leV, List.length_cons, Nat.pow_succ']; omega
theorem leN_leV (l : Bs) : leN l = leV (l.map UInt8.toNat) := by
  induction l with
  | nil => rfl
  | cons c l ih => simp [leN, leV, ih]
theorem leN_append (a b : Bs) : leN (a ++ b) = leN a + 256 ^ a.length * leN b := by
  simp only [leN_leV, List.map_append, leV_append, List.length_map]
theorem leN_lt (l : Bs) : leN l < 256 ^ l.length := by
  rw [leN_leV]
  have := leV_lt (l := l.map UInt8.toNat) (by simp only [List.mem_map]; rintro _ ⟨c, _, rfl⟩; exact c.toNat_lt)
  simpa using this
theorem leN_take_drop (l : Bs) (k : Nat) (h : k ≤ l.length) : leN l = leN (l.take k) + 256 ^ k * leN (l.drop k) := by
  conv => lhs; rw [← List.take_append_drop k l]
  rw [leN_append, List.length_take, Nat.min_eq_left h]
theorem leN_zeros (n : Nat) : leN (List.replicate n 0) = 0 := by
  induction n with
  | zero => rfl
  | succ n ih => simp [List.replicate_succ, leN, ih]
theorem leN_pad (l : Bs) (n : Nat) : leN (l ++ List.replicate n 0) = leN l := by rw [leN_append, leN_zeros]; simp
/-! bytes of a number, the lowest first -/
theorem putL_length (v n : Nat) : (putL v n).length = n := by
  induction n generalizing v with
  | zero => rfl
  | succ n ih => simp [putL, ih]
theorem putL_append (v m n : Nat) : putL v (m + n) = putL v m ++ putL (v / 256 ^ m) n := by
  induction m generalizing v with
  | zero => simp [putL]
  | succ m ih =>
    rw [show m + 1 + n = (m + n) + 1 by omega]
    simp only [putL, ih, List.cons_append]
    rw [Nat.div_div_eq_div_mul, ← Nat.pow_succ']
theorem ofNat_mod (v : Nat) : UInt8.ofNat (v % 256) = UInt8.ofNat v := by
  apply UInt8.toNat_inj.1; simp
theorem putL_mod (v n : Nat) : putL (v % 256 ^ n) n = putL v n := by
  induction n generalizing v with
  | zero => rfl
  | succ n ih =>
    simp only [putL]
    have h1 : v % 256 ^ (n+1) / 256 = v / 256 % 256 ^ n := by
      rw [Nat.pow_succ', Nat.mod_mul_right_div_self]
    have h2 : UInt8.ofNat (v % 256 ^ (n+1)) = UInt8.ofNat v := by
      rw [← ofNat_mod (v % 256 ^ (n+1)), ← ofNat_mod v, Nat.pow_succ', Nat.mod_mul_right_mod]
    rw [h1, ih, h2]
theorem putL_digits {l : List Nat} (h : ∀ x ∈ l, x < 256) : putL (leV l) l.length = l.map UInt8.ofNat := by
  induction l with
  | nil => rfl
  | cons c l ih =>
    have h1 := h c (by simp)
    have h2 := ih fun x hx => h x (by simp [hx])
    simp only [leV, List.length_cons, putL, List.map_cons]
    rw [show (c + 256 * leV l) / 256 = leV l by omega, h2, ← ofNat_mod, show (c + 256 * leV l) % 256 = c by omega]
theorem putL_take {l : List Nat} (h : ∀ x ∈ l, x < 256) (n : Nat) (hn : n ≤ l.length) : putL (leV l) n = (l.take n).map UInt8.ofNat := by
  have h1 := leV_take_drop l n hn
  have h2 := putL_digits (l := l.take n) fun x hx => h x (List.mem_of_mem_take hx)
  rw [List.length_take, Nat.min_eq_left hn] at h2
  rw [← h2, ← putL_mod, h1, Nat.add_mul_mod_self_left, putL_mod]
theorem leN_putL (v n : Nat) : leN (putL v n) = v % 256 ^ n := by
  induction n generalizing v with
  | zero => simp [putL, leN, Nat.mod_one]
  | succ n ih =>
    simp only [putL, leN, ih]
    rw [Nat.pow_succ', Nat.mod_mul]
    simp
/-! Carrying. -/
/-- what carry gives: digits below 256, at least 18, of the same value -/
structure Carried (x out : List Nat) : Prop where
  small : ∀ d ∈ out, d < 256
  val : leV out = leV x
  long : 18 ≤ out.length
  most : out.length ≤ max 18 (x.length + 6)
  fit : leV x < 256 ^ x.length → out.length = max 18 x.length
/-- the state of a carry behind k rounds -/
structure Carry (x : List Nat) (k : Nat) (out : List Nat) (c : Nat) : Prop where
  len : out.length = k
  small : ∀ d ∈ out, d < 256
  val : leV out + 256 ^ k * c = leV (x.take k)
  room : c * 256 ^ (k - x.length) ≤ 1099511627776
theorem Carry.start (x : List Nat) : Carry x 0 [] 0 := ⟨rfl, by simp, by simp [leV], by simp⟩
theorem Carry.round {x : List Nat} {k : Nat} {out : List Nat} {c : Nat} (h : Carry x k out c) (hx : ∀ d ∈ x, d ≤ 1099511627776) (hk : k < x.length) :
    Carry x (k+1) (out ++ [(c + x.getD k 0) % 256]) ((c + x.getD k 0) / 256) := by
  have hd : x.getD k 0 ≤ 1099511627776 := by
    simp only [List.getD_eq_getElem?_getD, List.getElem?_eq_getElem hk]; exact hx _ (List.getElem_mem hk)
  have hr := h.room
  rw [show k - x.length = 0 by omega] at hr
  refine ⟨by simp [h.len], ?_, ?_, ?_⟩
  · intro d hd
    rcases List.mem_append.1 hd with h1 | h1
    · exact h.small d h1
    · rw [List.mem_singleton] at h1; subst h1; exact Nat.mod_lt _ (by decide)
  · rw [leV_append, h.len, leV_take_succ x k hk, ← h.val]
    simp only [leV, Nat.pow_succ, Nat.mul_assoc, Nat.add_assoc, ← Nat.mul_add]
    congr 2
    omega
  · rw [show k + 1 - x.length = 0 by omega]; omega
theorem Carry.more {x : List Nat} {k : Nat} {out : List Nat} {c : Nat} (h : Carry x k out c) (hk : x.length ≤ k) :
    Carry x (k+1) (out ++ [c % 256]) (c / 256) := by
  have hr := h.room
  refine ⟨by simp [h.len], ?_, ?_, ?_⟩
  · intro d hd
    rcases List.mem_append.1 hd with h1 | h1
    · exact h.small d h1
    · rw [List.mem_singleton] at h1; subst h1; exact Nat.mod_lt _ (by decide)
  · rw [leV_append, h.len, List.take_of_length_le (by omega)]
    have hv := h.val
    rw [List.take_of_length_le hk] at hv
    rw [← hv]
    simp only [leV, Nat.pow_succ, Nat.mul_assoc, Nat.add_assoc, ← Nat.mul_add]
    congr 2
    omega
  · rw [show k + 1 - x.length = (k - x.length) + 1 by omega, Nat.pow_succ, ← Nat.mul_assoc, Nat.mul_right_comm]
    refine Nat.le_trans (Nat.mul_le_mul_right _ (Nat.div_mul_le_self c 256)) hr
theorem Carry.long {x : List Nat} {k : Nat} {out : List Nat} {c : Nat} (h : Carry x k out c) (hc : 0 < c) : k ≤ x.length + 5 := by
  apply Nat.le_of_not_lt; intro hk
  have h1 : 256 ^ 6 ≤ 256 ^ (k - x.length) := Nat.pow_le_pow_right (by decide) (by omega)
  have h2 : 1 * 256 ^ (k - x.length) ≤ c * 256 ^ (k - x.length) := Nat.mul_le_mul_right _ hc
  have := h.room
  have : (256 : Nat) ^ 6 = 281474976710656 := by decide
  omega
theorem Carry.bound {x : List Nat} {k : Nat} {out : List Nat} {c : Nat} (h : Carry x k out c) : c ≤ 1099511627776 := by
  have h1 : 1 ≤ 256 ^ (k - x.length) := Nat.one_le_pow _ _ (by decide)
  have h2 := h.room
  have : c * 1 ≤ c * 256 ^ (k - x.length) := Nat.mul_le_mul_left _ h1
  omega
/-- how far it goes: a value that fits into x's places leaves nothing behind them -/
theorem Carry.fits {x : List Nat} {k : Nat} {out : List Nat} {c : Nat} (h : Carry x k out c) (hv : leV x < 256 ^ x.length) (hk : x.length ≤ k) : c = 0 := by
  have h1 := h.val
  rw [List.take_of_length_le hk] at h1
  apply Nat.eq_zero_of_not_pos; intro hc
  have h2 : 256 ^ k * 1 ≤ 256 ^ k * c := Nat.mul_le_mul_left _ hc
  have h3 : 256 ^ x.length ≤ 256 ^ k := Nat.pow_le_pow_right (by decide) hk
  omega
/-- when the first loop is over -/
theorem Carry.stop {x : List Nat} {k : Nat} {out : List Nat} (h : Carry x k out 0) (hk : x.length ≤ k) (hk6 : k ≤ x.length + 6) (hf : leV x < 256 ^ x.length → k = x.length) :
    Carried x (out ++ List.replicate (18 - out.length) 0) := by
  have hv := h.val
  rw [List.take_of_length_le hk] at hv
  refine ⟨?_, ?_, ?_, ?_, fun hl => ?_⟩
  · intro d hd
    rcases List.mem_append.1 hd with h1 | h1
    · exact h.small d h1
    · rw [(List.mem_replicate.1 h1).2]; decide
  · rw [leV_append, leV_zeros]; omega
  · simp; omega
  · simp [h.len]; omega
  · have := hf hl; simp [h.len]; omega
/-! Folding. -/
/-- what lies above the second bit, digit by digit -/
def qd : List Nat → List Nat
  | [] => []
  | c :: l => (c / 4 + l.headD 0 % 4 * 64) :: qd l
theorem qd_length (l : List Nat) : (qd l).length = l.length := by induction l <;> simp [qd, *]
theorem qd_val (l : List Nat) : 4 * leV (qd l) + l.headD 0 % 4 = leV l := by
  induction l with
  | nil => rfl
  | cons c l ih => simp only [qd, leV, List.headD_cons]; omega
theorem qd_get (l : List Nat) (k : Nat) (h : k < l.length) : (qd l).getD k 0 = l.getD k 0 / 4 + (if k + 1 < l.length then l.getD (k+1) 0 % 4 * 64 else 0) := by
  induction l generalizing k with
  | nil => simp at h
  | cons c l ih =>
    cases k with
    | zero =>
      cases l with
      | nil => simp [qd]
      | cons d l => simp [qd]
    | succ k =>
      simp only [List.length_cons] at h
      simp only [qd, List.getD_cons_succ, List.length_cons, ih k (by omega)]
      simp
/-- the sum of the first k steps of a fold, of digits x: value and greatest digit -/
def foldAt (x : List Nat) (k : Nat) : Nat :=
  leV ((x.take 16).take k) + (if 16 < k then 256 ^ 16 * (x.getD 16 0 % 4) else 0) + 5 * leV ((qd (x.drop 16)).take (k - 16))
theorem foldAt_zero (x : List Nat) : foldAt x 0 = 0 := by simp [foldAt, leV]
theorem foldAt_low (x : List Nat) (k : Nat) (h : k < 16) (hx : k < x.length) : foldAt x (k+1) = foldAt x k + 256 ^ k * x.getD k 0 := by
  simp only [foldAt, show ¬ 16 < k by omega, show ¬ 16 < k + 1 by omega, if_false, show k - 16 = 0 by omega, show k + 1 - 16 = 0 by omega]
  rw [leV_take_succ _ k (by simp; omega)]
  simp [List.getD_eq_getElem?_getD, List.getElem?_take, h, leV]
theorem foldAt_high (x : List Nat) (k : Nat) (h : 16 ≤ k) (hx : k < x.length) :
    foldAt x (k+1) = foldAt x k + (if k = 16 then 256 ^ 16 * (x.getD 16 0 % 4) else 0) + 256 ^ (k - 16) * (5 * (x.getD k 0 / 4 + (if k + 1 < x.length then x.getD (k+1) 0 % 4 * 64 else 0))) := by
  have e1 : (x.take 16).take (k+1) = x.take 16 := List.take_of_length_le (by simp; omega)
  have e2 : (x.take 16).take k = x.take 16 := List.take_of_length_le (by simp; omega)
  simp only [foldAt, e1, e2, show 16 < k + 1 by omega, if_true, show k + 1 - 16 = (k - 16) + 1 by omega]
  rw [leV_take_succ _ (k - 16) (by rw [qd_length]; simp; omega), qd_get _ _ (by simp; omega)]
  simp only [List.getD_eq_getElem?_getD, List.getElem?_drop, List.length_drop]
  rw [show 16 + (k - 16) = k by omega, show 16 + (k - 16 + 1) = k + 1 by omega]
  have e3 : (k - 16 + 1 < x.length - 16) ↔ (k + 1 < x.length) := by omega
  simp only [e3]
  by_cases hk : k = 16
  · subst hk
    simp only [Nat.lt_irrefl, if_false, if_true, Nat.mul_add, Nat.mul_left_comm]
    omega
  · simp only [show 16 < k by omega, hk, if_true, if_false, Nat.mul_add, Nat.mul_left_comm]
    omega
/-- the fold's whole sum -/
theorem foldAt_all (x : List Nat) (h : 16 < x.length) : foldAt x x.length + leV (qd (x.drop 16)) * polyP = leV x := by
  have h1 := leV_take_drop x 16 (by omega)
  have h2 := qd_val (x.drop 16)
  have h3 : (x.drop 16).headD 0 = x.getD 16 0 := by
    simp [List.headD_eq_head?_getD, List.head?_drop, List.getD_eq_getElem?_getD]
  rw [h3] at h2
  have e1 : (x.take 16).take x.length = x.take 16 := List.take_of_length_le (by simp; omega)
  have e2 : (qd (x.drop 16)).take (x.length - 16) = qd (x.drop 16) := List.take_of_length_le (by rw [qd_length]; simp)
  simp only [foldAt, e1, e2, h, if_true]
  have e3 : (256 : Nat) ^ 16 = 340282366920938463463374607431768211456 := by decide
  rw [e3] at h1 ⊢
  simp only [polyP]
  omega
/-- it goes on just if something lies above -/
def highAt (x : List Nat) (k : Nat) : Bool := (List.range k).any fun i => decide (16 ≤ i) && decide (0 < (qd (x.drop 16)).getD (i - 16) 0)
theorem highAt_succ (x : List Nat) (k : Nat) : highAt x (k+1) = (highAt x k || (decide (16 ≤ k) && decide (0 < (qd (x.drop 16)).getD (k - 16) 0))) := by
  simp [highAt, List.range_succ, List.any_append]
theorem leV_zero {l : List Nat} : leV l = 0 ↔ ∀ x ∈ l, x = 0 := by
  induction l with
  | nil => simp [leV]
  | cons c l ih =>
    simp only [leV, List.mem_cons, forall_eq_or_imp, ← ih]
    omega
theorem highAt_all (x : List Nat) (h : 16 < x.length) : highAt x x.length = true ↔ 0 < leV (qd (x.drop 16)) := by
  have : (highAt x x.length = false) ↔ leV (qd (x.drop 16)) = 0 := by
    rw [leV_zero]
    simp only [highAt, List.any_eq_false, List.mem_range, Bool.and_eq_true, decide_eq_true_eq, not_and]
    constructor
    · intro hh y hy
      obtain ⟨j, hj, rfl⟩ := List.getElem_of_mem hy
      rw [qd_length, List.length_drop] at hj
      have := hh (j + 16) (by omega) (by omega)
      rw [Nat.add_sub_cancel, List.getD_eq_getElem?_getD, List.getElem?_eq_getElem (by rw [qd_length, List.length_drop]; omega)] at this
      simp at this
      omega
    · intro hh i hi h16
      have hl : i - 16 < (qd (x.drop 16)).length := by rw [qd_length, List.length_drop]; omega
      have := hh _ (List.getElem_mem hl)
      rw [List.getD_eq_getElem?_getD, List.getElem?_eq_getElem hl]
      simp [this]
  cases hb : highAt x x.length
  · have := this.1 hb; simp; omega
  · simp
    apply Nat.pos_of_ne_zero
    intro h0
    rw [this.2 h0] at hb; cases hb
/-- what a fold gives: 18 digits below 256 of the same rest, below 2 to the 130th -/
structure Folded (x : List Nat) (out : List Nat) : Prop where
  small : ∀ d ∈ out, d < 256
  len : out.length = 18
  lt : leV out < 2 ^ 130
  mod : leV out % polyP = leV x % polyP
theorem high_no {x : List Nat} (h : 16 < x.length) (hh : highAt x x.length = false) : leV x < 2 ^ 130 ∨ True := Or.inr trivial
/-- nothing above: below 2 to the 130th -/
theorem low_of {x : List Nat} (hs : ∀ d ∈ x, d < 256) (h : 16 < x.length) (hh : highAt x x.length = false) : foldAt x x.length = leV x ∧ leV x < 2 ^ 130 := by
  have h0 : leV (qd (x.drop 16)) = 0 := by
    apply Nat.eq_zero_of_not_pos; intro h1
    rw [(highAt_all x h).2 h1] at hh; cases hh
  have h1 := foldAt_all x h
  rw [h0] at h1
  refine ⟨by omega, ?_⟩
  have h2 := qd_val (x.drop 16)
  rw [h0] at h2
  have h3 := leV_take_drop x 16 (by omega)
  have h4 := leV_lt (l := x.take 16) fun d hd => hs d (List.mem_of_mem_take hd)
  rw [List.length_take, Nat.min_eq_left (by omega)] at h4
  have e3 : (256 : Nat) ^ 16 = 340282366920938463463374607431768211456 := by decide
  rw [e3] at h3 h4
  omega
theorem take18 {x : List Nat} (h : 18 ≤ x.length) (hv : leV x < 2 ^ 130) : leV (x.take 18) = leV x := by
  have h3 := leV_take_drop x 18 h
  have : (256 : Nat) ^ 18 = 22300745198530623141535718272648361505980416 := by decide
  rw [this] at h3
  have h0 : leV (x.drop 18) = 0 := by omega
  rw [h0] at h3; omega
theorem Folded.of {x y : List Nat} (hy : Carried y x) (hv : leV y < 2 ^ 130) : Folded y (x.take 18) := by
  have e := take18 hy.long (by rw [hy.val]; exact hv)
  refine ⟨fun d hd => hy.small d (List.mem_of_mem_take hd), by have := hy.long; simp; omega, by rw [e, hy.val]; exact hv, by rw [e, hy.val]⟩
theorem Folded.trans {x y z : List Nat} (h : leV x % polyP = leV y % polyP) (k : Folded y z) : Folded x z := ⟨k.small, k.len, k.lt, by rw [k.mod, h]⟩
/-- a round of a fold that goes on lowers the value -/
theorem fold_less {x : List Nat} (h : 16 < x.length) (hh : highAt x x.length = true) : foldAt x x.length < leV x := by
  have h1 := foldAt_all x h
  have h2 := (highAt_all x h).1 hh
  have h3 : 1 * polyP ≤ leV (qd (x.drop 16)) * polyP := Nat.mul_le_mul_right _ h2
  have : 0 < polyP := by decide
  omega
theorem fold_mod {x : List Nat} (h : 16 < x.length) : foldAt x x.length % polyP = leV x % polyP := by
  rw [← foldAt_all x h, Nat.add_mul_mod_self_right]
/-- the last: 5 more, if that comes to 2 to the 130th -/
theorem last_mod (v : Nat) (h : v < 2 ^ 130) : (if 2 ^ 130 ≤ v + 5 then v + 5 else v) % 2 ^ 128 = v % polyP % 2 ^ 128 := by
  have hP := polyP_eq
  by_cases h1 : 2 ^ 130 ≤ v + 5
  · rw [if_pos h1, Nat.mod_eq_sub_mod (a := v) (b := polyP) (by omega), Nat.mod_eq_of_lt (a := v - polyP) (by omega)]
    have : v + 5 = (v - polyP) + 2 ^ 130 := by omega
    rw [this]; omega
  · rw [if_neg h1, Nat.mod_eq_of_lt (a := v) (b := polyP) (by omega)]
/-- the seventeenth and eighteenth digit tell it -/
theorem top_digits {x : List Nat} (hs : ∀ d ∈ x, d < 256) (h : 18 ≤ x.length) (hv : leV x < 2 ^ 131) : (4 ≤ x.getD 16 0 ∨ 0 < x.getD 17 0) ↔ 2 ^ 130 ≤ leV x := by
  have h3 := leV_take_drop x 16 (by omega)
  have h4 := leV_lt (l := x.take 16) fun d hd => hs d (List.mem_of_mem_take hd)
  rw [List.length_take, Nat.min_eq_left (by omega)] at h4
  have h5 := leV_take_drop (x.drop 16) 1 (by simp; omega)
  have h6 : leV ((x.drop 16).take 1) = x.getD 16 0 := by
    have := leV_take_succ (x.drop 16) 0 (by simp; omega)
    simpa [leV, List.getD_eq_getElem?_getD] using this
  rw [h6, List.drop_drop] at h5
  have h7 : leV (x.drop 17) = x.getD 17 0 + 256 * leV (x.drop 18) := by
    rw [List.drop_eq_getElem_cons (by omega), leV]
    simp [List.getD_eq_getElem?_getD, List.getElem?_eq_getElem (show 17 < x.length by omega)]
  have h8 : x.getD 16 0 < 256 := by
    rw [List.getD_eq_getElem?_getD, List.getElem?_eq_getElem (by omega)]; exact hs _ (List.getElem_mem _)
  have e3 : (256 : Nat) ^ 16 = 340282366920938463463374607431768211456 := by decide
  rw [e3] at h3 h4
  simp only [Nat.reduceAdd] at h5
  omega
end Go.Esc
