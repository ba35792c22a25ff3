/- What the document computes, in plain Lean. Poly1305 in plain Lean: what the document computes, and that limbs of 26 bits and digits of 8 bits come to it. Numbers by digits of 8 bits, in plain Lean: how the document reckons Poly1305. Values, worlds and bytes: lemmas over whatever program. Contracts of package octet. Laws for regions that draw their order: append onto a row of the call's own. -/
import Derived.WalkKit
import Derived.Laws.BitsAllLaws
import Derived.Test.YtoakccknimoogaaGreatProg
import Derived.Lib.Hide
import Derived.Deep.RegionLaw
set_option linter.unusedSimpArgs false
set_option linter.unusedVariables false
namespace Go.Esc
abbrev Wd := BitVec 32
abbrev Bs := List UInt8
def rotl (x : Wd) (k : Nat) : Wd := x <<< k ||| x >>> (32 - k)
def rotr (x : Wd) (k : Nat) : Wd := rotl x ((32 - k % 32) % 32)
/-- the number of bytes, the highest first -/
def beN (l : Bs) : Nat := l.foldl (fun v c => v * 256 + c.toNat) 0
/-- the number of bytes, the lowest first -/
def leN : Bs → Nat
 | [] => 0
 | c :: l => c.toNat + 256 * leN l
/-- n bytes of v, the highest first -/
def putB (v : Nat) : Nat → Bs
 | 0 => []
 | n+1 => UInt8.ofNat (v / 256 ^ n) :: putB v n
/-- n bytes of v, the lowest first -/
def putL (v : Nat) : Nat → Bs
 | 0 => []
 | n+1 => UInt8.ofNat v :: putL (v / 256) n
def kTab : List Wd := [
 0x428a2f98, 0x71374491, 0xb5c0fbcf, 0xe9b5dba5, 0x3956c25b, 0x59f111f1, 0x923f82a4, 0xab1c5ed5,
 0xd807aa98, 0x12835b01, 0x243185be, 0x550c7dc3, 0x72be5d74, 0x80deb1fe, 0x9bdc06a7, 0xc19bf174,
 0xe49b69c1, 0xefbe4786, 0x0fc19dc6, 0x240ca1cc, 0x2de92c6f, 0x4a7484aa, 0x5cb0a9dc, 0x76f988da,
 0x983e5152, 0xa831c66d, 0xb00327c8, 0xbf597fc7, 0xc6e00bf3, 0xd5a79147, 0x06ca6351, 0x14292967,
 0x27b70a85, 0x2e1b2138, 0x4d2c6dfc, 0x53380d13, 0x650a7354, 0x766a0abb, 0x81c2c92e, 0x92722c85,
 0xa2bfe8a1, 0xa81a664b, 0xc24b8b70, 0xc76c51a3, 0xd192e819, 0xd6990624, 0xf40e3585, 0x106aa070,
 0x19a4c116, 0x1e376c08, 0x2748774c, 0x34b0bcb5, 0x391c0cb3, 0x4ed8aa4a, 0x5b9cca4f, 0x682e6ff3,
 0x748f82ee, 0x78a5636f, 0x84c87814, 0x8cc70208, 0x90befffa, 0xa4506ceb, 0xbef9a3f7, 0xc67178f2]
def hTab : List Wd := [0x6a09e667, 0xbb67ae85, 0x3c6ef372, 0xa54ff53a, 0x510e527f, 0x9b05688c, 0x1f83d9ab, 0x5be0cd19]
def word (l : Bs) (i : Nat) : Wd := BitVec.ofNat 32 (beN ((l.drop (4*i)).take 4))
/-- the next word of a schedule, of the words so far -/
def nextW (w : List Wd) (t : Nat) : Wd :=
 let x := w.getD (t-15) 0
 let y := w.getD (t-2) 0
 w.getD (t-16) 0 + (rotr x 7 ^^^ rotr x 18 ^^^ x >>> 3) + w.getD (t-7) 0 + (rotr y 17 ^^^ rotr y 19 ^^^ y >>> 10)
def sched (b : Bs) : Nat → List Wd
 | 0 => []
 | t+1 => let w := sched b t; w ++ [if t < 16 then word b t else nextW w t]
structure St where
 a : Wd
 b : Wd
 c : Wd
 d : Wd
 e : Wd
 f : Wd
 g : Wd
 h : Wd
def St.l (s : St) : List Wd := [s.a, s.b, s.c, s.d, s.e, s.f, s.g, s.h]
def St.of (l : List Wd) : St := ⟨l.getD 0 0, l.getD 1 0, l.getD 2 0, l.getD 3 0, l.getD 4 0, l.getD 5 0, l.getD 6 0, l.getD 7 0⟩
def step (s : St) (k w : Wd) : St :=
 let t1 := s.h + (rotr s.e 6 ^^^ rotr s.e 11 ^^^ rotr s.e 25) + (s.e &&& s.f ^^^ ~~~s.e &&& s.g) + k + w
 let t2 := (rotr s.a 2 ^^^ rotr s.a 13 ^^^ rotr s.a 22) + (s.a &&& s.b ^^^ s.a &&& s.c ^^^ s.b &&& s.c)
 ⟨t1 + t2, s.a, s.b, s.c, s.d + t1, s.e, s.f, s.g⟩
def St.add (s t : St) : St := ⟨s.a + t.a, s.b + t.b, s.c + t.c, s.d + t.d, s.e + t.e, s.f + t.f, s.g + t.g, s.h + t.h⟩
def rounds (w : List Wd) (s : St) (n : Nat) : St := (List.range n).foldl (fun s i => step s (kTab.getD i 0) (w.getD i 0)) s
def comp (s : St) (b : Bs) : St := (rounds (sched b 64) s 64).add s
def initS : St := St.of hTab
/-- whole blocks of l, fuel n -/
def blocks (s : St) (l : Bs) : Nat → St
 | 0 => s
 | n+1 => blocks (comp s (l.take 64)) (l.drop 64) n
def shaPad (n : Nat) : Bs := 0x80 :: List.replicate ((119 - n % 64) % 64) 0 ++ putB (n * 8 % 2^64) 8
def sha (l : Bs) : Bs := let m := l ++ shaPad l.length; (blocks initS m (m.length / 64)).l.flatMap (fun w => putB w.toNat 4)
def hexD : Bs := [48,49,50,51,52,53,54,55,56,57,97,98,99,100,101,102]
def hex (l : Bs) : Bs := l.flatMap fun c => [hexD.getD (c.toNat / 16) 0, hexD.getD (c.toNat % 16) 0]
set_option maxRecDepth 100000 in
theorem t1 : hex (sha [97,98,99]) = [98,97,55,56,49,54,98,102,56,102,48,49,99,102,101,97,52,49,52,49,52,48,100,101,53,100,97,101,50,50,50,51,98,48,48,51,54,49,97,51,57,54,49,55,55,97,57,99,98,52,49,48,102,102,54,49,102,50,48,48,49,53,97,100] := by decide +kernel
theorem beN_take_succ (l : List UInt8) (k : Nat) (h : k < l.length) : beN (l.take (k+1)) = beN (l.take k) * 256 + l[k].toNat := by
 rw [List.take_succ_eq_append_getElem h, beN, List.foldl_append]; rfl
theorem beN_lt (l : List UInt8) : beN l < 256 ^ l.length := by
 suffices h : ∀ (l : List UInt8) (v : Nat), l.foldl (fun v c => v * 256 + c.toNat) v < (v+1) * 256 ^ l.length by simpa [beN] using h l 0
 intro l
 induction l with
 | nil => intro v; simp
 | cons c l ih =>
   intro v
   simp only [List.foldl_cons, List.length_cons]
   refine Nat.lt_of_lt_of_le (ih _) ?_
   have := c.toNat_lt
   rw [Nat.pow_succ', ← Nat.mul_assoc]
   exact Nat.mul_le_mul_right _ (by omega)
theorem beN_le {l : List UInt8} (h : l.length ≤ 7) : beN l ≤ 72057594037927935 := by
 have := beN_lt l
 have h2 : 256 ^ l.length ≤ 256 ^ 7 := Nat.pow_le_pow_right (by decide) h
 have : beN l < 256 ^ 7 := Nat.lt_of_lt_of_le this h2
 omega
end Go.Esc
namespace Go.Esc
def polyP : Nat := 1361129467683753853853498429727072845819
theorem polyP_eq : polyP = 2 ^ 130 - 5 := by decide
def clampB (i : Nat) (c : UInt8) : UInt8 := if i = 3 ∨ i = 7 ∨ i = 11 ∨ i = 15 then c &&& 15 else if i = 4 ∨ i = 8 ∨ i = 12 then c &&& 252 else c
/-- the first k of 16 bytes without some bits -/
def clampL (key : Bs) : Bs := (List.range 16).map fun i => clampB i (key.getD i 0)
def pstep (r acc : Nat) (l : Bs) : Nat := (acc + leN (l ++ [1])) * r % polyP
/-- n blocks of l -/
def polyN (r acc : Nat) (l : Bs) : Nat → Nat
 | 0 => acc
 | n+1 => polyN r (pstep r acc (l.take 16)) (l.drop 16) n
def polyF (r acc : Nat) (l : Bs) : Nat := polyN r acc l ((l.length + 15) / 16)
def tagL (key b : Bs) : Bs := putL ((polyF (leN (clampL key)) 0 b + leN ((key.drop 16).take 16)) % 2 ^ 128) 16
theorem polyF_nil (r acc : Nat) : polyF r acc [] = acc := rfl
theorem polyF_step (r acc : Nat) (l : Bs) (h : 0 < l.length) : polyF r acc l = polyF r (pstep r acc (l.take 16)) (l.drop 16) := by
 unfold polyF
 obtain ⟨n, hn⟩ : ∃ n, (l.length + 15) / 16 = n + 1 := ⟨(l.length + 15) / 16 - 1, by omega⟩
 have h2 : ((l.drop 16).length + 15) / 16 = n := by simp; omega
 rw [hn, h2]; rfl
theorem pstep_mod (r acc : Nat) (l : Bs) : pstep r (acc % polyP) l = pstep r acc l := by
 unfold pstep
 rw [Nat.mul_mod, Nat.mod_add_mod, ← Nat.mul_mod]
def val5 (l : List Nat) : Nat := l.getD 0 0 + 67108864 * l.getD 1 0 + 4503599627370496 * l.getD 2 0 + 302231454903657293676544 * l.getD 3 0 + 20282409603651670423947251286016 * l.getD 4 0
/-- i limbs carried -/
def cr (l : List Nat) (c0 : Nat) : Nat → List Nat × Nat
 | 0 => (l, c0)
 | i+1 => let m := cr l c0 i; let v := m.1.getD i 0 + m.2; (m.1.set i (v % 67108864), v / 67108864)
def pass (l : List Nat) : List Nat := let m := cr l 0 5; m.1.set 0 (m.1.getD 0 0 + m.2 * 5)
def passes (l : List Nat) : Nat → List Nat
 | 0 => l
 | n+1 => pass (passes l n)
def carryN (l : List Nat) : List Nat := passes l 3
theorem cr_length (l : List Nat) (c0 i : Nat) : (cr l c0 i).1.length = l.length := by
 induction i with
 | zero => rfl
 | succ i ih => simp [cr, ih]
theorem pass_length (l : List Nat) : (pass l).length = l.length := by simp [pass, cr_length]
theorem passes_length (l : List Nat) (n : Nat) : (passes l n).length = l.length := by
 induction n with
 | zero => rfl
 | succ n ih => simp [passes, pass_length, ih]
def cr5 (a b c d e c0 : Nat) : List Nat × Nat :=
 ([(a + c0) % 67108864, (b + (a + c0) / 67108864) % 67108864, (c + (b + (a + c0) / 67108864) / 67108864) % 67108864, (d + (c + (b + (a + c0) / 67108864) / 67108864) / 67108864) % 67108864, (e + (d + (c + (b + (a + c0) / 67108864) / 67108864) / 67108864) / 67108864) % 67108864], (e + (d + (c + (b + (a + c0) / 67108864) / 67108864) / 67108864) / 67108864) / 67108864)
theorem cr_five (a b c d e c0 : Nat) : cr [a, b, c, d, e] c0 5 = cr5 a b c d e c0 := by
 simp [cr, cr5]
theorem five (l : List Nat) (h : l.length = 5) : ∃ a b c d e, l = [a, b, c, d, e] := by
 match l, h with
 | [a, b, c, d, e], _ => exact ⟨a, b, c, d, e, rfl⟩
/-- all limbs are at the most b -/
def Le5 (b : Nat) (l : List Nat) : Prop := l.length = 5 ∧ ∀ x ∈ l, x ≤ b
theorem cr_val (l : List Nat) (c0 : Nat) (h : l.length = 5) : val5 (cr l c0 5).1 + (cr l c0 5).2 * 2 ^ 130 = val5 l + c0 := by
 obtain ⟨a, b, c, d, e, rfl⟩ := five l h
 rw [cr_five]
 simp only [cr5, val5, List.getD_cons_zero, List.getD_cons_succ]
 omega
theorem pass_val (l : List Nat) (h : l.length = 5) : ∃ k, val5 (pass l) + k * polyP = val5 l := by
 refine ⟨(cr l 0 5).2, ?_⟩
 have hv := cr_val l 0 h
 have hl := cr_length l 0 5
 rw [h] at hl
 obtain ⟨a, b, c, d, e, hm⟩ := five _ hl
 simp only [pass, hm] at hv ⊢
 simp only [val5, List.set_cons_zero, List.getD_cons_zero, List.getD_cons_succ] at hv ⊢
 rw [show polyP = 2 ^ 130 - 5 from polyP_eq]
 omega
theorem passes_val (l : List Nat) (n : Nat) (h : l.length = 5) : ∃ k, val5 (passes l n) + k * polyP = val5 l := by
 induction n with
 | zero => exact ⟨0, by simp [passes]⟩
 | succ n ih =>
   obtain ⟨k, hk⟩ := ih
   obtain ⟨k2, hk2⟩ := pass_val (passes l n) (by rw [passes_length, h])
   refine ⟨k + k2, ?_⟩
   rw [passes, Nat.add_mul]; omega
theorem passes_mod (l : List Nat) (n : Nat) (h : l.length = 5) : val5 (passes l n) % polyP = val5 l % polyP := by
 obtain ⟨k, hk⟩ := passes_val l n h
 rw [← hk, Nat.add_mul_mod_self_right]
theorem getD_none (l : List Nat) (j : Nat) (h : l.length ≤ j) : l.getD j 0 = 0 := by
 rw [List.getD_eq_getElem?_getD, List.getElem?_eq_none h]; rfl
theorem cr_le (l : List Nat) (c0 B C : Nat) (hc : c0 ≤ C) (hC : B + C < 67108864 * (C + 1)) (h : Le5 B l) (i : Nat) (hi : i ≤ 5) :
 (∀ j, j < i → (cr l c0 i).1.getD j 0 < 67108864) ∧ (∀ j, i ≤ j → (cr l c0 i).1.getD j 0 ≤ B) ∧ (cr l c0 i).2 ≤ C := by
 induction i with
 | zero =>
   refine ⟨fun j h => absurd h (by omega), fun j _ => ?_, hc⟩
   by_cases hj : j < l.length
   · simp only [cr, List.getD_eq_getElem?_getD, List.getElem?_eq_getElem hj]; exact h.2 _ (List.getElem_mem hj)
   · simp only [cr]; rw [getD_none l j (by omega)]; exact Nat.zero_le _
 | succ i ih =>
   obtain ⟨h1, h2, h3⟩ := ih (by omega)
   have hl : (cr l c0 i).1.length = 5 := by rw [cr_length]; exact h.1
   have h4 := h2 i (by omega)
   have hg : ∀ j, (cr l c0 (i+1)).1.getD j 0 = if j = i then ((cr l c0 i).1.getD i 0 + (cr l c0 i).2) % 67108864 else (cr l c0 i).1.getD j 0 := by
    intro j
    simp only [cr, List.getD_eq_getElem?_getD, List.getElem?_set]
    by_cases hji : i = j
    · subst hji; simp [hl, show i < 5 by omega]
    · simp [hji, show ¬ j = i by omega]
   refine ⟨fun j hj => ?_, fun j hj => ?_, ?_⟩
   · rw [hg]
     split
     · exact Nat.mod_lt _ (by decide)
     · exact h1 j (by omega)
   · rw [hg, if_neg (by omega)]; exact h2 j (by omega)
   · show ((cr l c0 i).1.getD i 0 + (cr l c0 i).2) / 67108864 ≤ _
     omega
theorem getD_le {l : List Nat} {b : Nat} (h : Le5 b l) (j : Nat) : l.getD j 0 ≤ b := by
 by_cases hj : j < l.length
 · simp only [List.getD_eq_getElem?_getD, List.getElem?_eq_getElem hj]; exact h.2 _ (List.getElem_mem hj)
 · rw [getD_none l j (by omega)]; exact Nat.zero_le _
theorem le5_of {b : Nat} {l : List Nat} (h : l.length = 5) (hj : ∀ j, j < 5 → l.getD j 0 ≤ b) : Le5 b l := by
 refine ⟨h, fun x hx => ?_⟩
 obtain ⟨j, hj', rfl⟩ := List.getElem_of_mem hx
 have := hj j (by omega)
 rwa [List.getD_eq_getElem?_getD, List.getElem?_eq_getElem hj'] at this
theorem Le5.mono {a b : Nat} {l : List Nat} (h : Le5 a l) (hab : a ≤ b) : Le5 b l := ⟨h.1, fun x hx => Nat.le_trans (h.2 x hx) hab⟩
/-- one pass lowers the limbs -/
theorem pass_le (l : List Nat) (B : Nat) (h : Le5 B l) : Le5 (67108863 + (B / 67108863 + 1) * 5) (pass l) := by
 obtain ⟨h1, _, h3⟩ := cr_le l 0 B (B / 67108863 + 1) (by omega) (by omega) h 5 (by omega)
 refine le5_of (by rw [pass_length, h.1]) fun j hj => ?_
 have hl : (cr l 0 5).1.length = 5 := by rw [cr_length]; exact h.1
 have e : (pass l).getD j 0 = if j = 0 then (cr l 0 5).1.getD 0 0 + (cr l 0 5).2 * 5 else (cr l 0 5).1.getD j 0 := by
  simp only [pass, List.getD_eq_getElem?_getD, List.getElem?_set]
  by_cases hj0 : 0 = j
  · subst hj0; simp [hl]
  · simp [hj0, show ¬ j = 0 by omega]
 rw [e]
 split
 · have := h1 0 (by omega); omega
 · have := h1 j (by omega); omega
/-- the third pass brings all limbs below 2 to the 26th -/
theorem pass_small (l : List Nat) (h : Le5 67108868 l) (h1 : ∀ j, 0 < j → l.getD j 0 ≤ 67108863) : Le5 67108863 (pass l) := by
 obtain ⟨a, b, c, d, e, rfl⟩ := five l h.1
 have ha := getD_le h 0
 have hb := h1 1 (by omega)
 have hc := h1 2 (by omega)
 have hd := h1 3 (by omega)
 have he := h1 4 (by omega)
 simp only [List.getD_cons_zero, List.getD_cons_succ] at ha hb hc hd he
 refine le5_of (by rw [pass_length]; rfl) fun j hj => ?_
 simp only [pass, cr_five, cr5, List.set_cons_zero, List.getD_cons_zero]
 match j, hj with
 | 0, _ => simp only [List.getD_cons_zero]; omega
 | 1, _ => simp only [List.getD_cons_zero, List.getD_cons_succ]; omega
 | 2, _ => simp only [List.getD_cons_zero, List.getD_cons_succ]; omega
 | 3, _ => simp only [List.getD_cons_zero, List.getD_cons_succ]; omega
 | 4, _ => simp only [List.getD_cons_zero, List.getD_cons_succ]; omega
theorem pass_mid (l : List Nat) (h : Le5 (67108863 + 68719477761 * 5) l) (h1 : ∀ j, 0 < j → l.getD j 0 ≤ 67108863) : Le5 67108868 (pass l) ∧ ∀ j, 0 < j → (pass l).getD j 0 ≤ 67108863 := by
 obtain ⟨a, b, c, d, e, rfl⟩ := five l h.1
 have ha := getD_le h 0
 have hb := h1 1 (by omega)
 have hc := h1 2 (by omega)
 have hd := h1 3 (by omega)
 have he := h1 4 (by omega)
 simp only [List.getD_cons_zero, List.getD_cons_succ] at ha hb hc hd he
 have hj : ∀ j, j < 5 → (pass [a, b, c, d, e]).getD j 0 ≤ 67108868 ∧ (0 < j → (pass [a, b, c, d, e]).getD j 0 ≤ 67108863) := by
  intro j hj
  simp only [pass, cr_five, cr5, List.set_cons_zero, List.getD_cons_zero]
  match j, hj with
  | 0, _ => simp only [List.getD_cons_zero]; omega
  | 1, _ => simp only [List.getD_cons_zero, List.getD_cons_succ]; omega
  | 2, _ => simp only [List.getD_cons_zero, List.getD_cons_succ]; omega
  | 3, _ => simp only [List.getD_cons_zero, List.getD_cons_succ]; omega
  | 4, _ => simp only [List.getD_cons_zero, List.getD_cons_succ]; omega
 refine ⟨le5_of (by rw [pass_length]; rfl) fun j h => (hj j h).1, fun j h0 => ?_⟩
 by_cases h5 : j < 5
 · exact (hj j h5).2 h0
 · rw [List.getD_eq_getElem?_getD, List.getElem?_eq_none (by rw [pass_length]; simp; omega)]; exact Nat.zero_le _
theorem pass_first (l : List Nat) (h : Le5 4611686018427387903 l) : Le5 (67108863 + 68719477761 * 5) (pass l) ∧ ∀ j, 0 < j → (pass l).getD j 0 ≤ 67108863 := by
 refine ⟨(pass_le l _ h).mono (by decide), fun j hj => ?_⟩
 obtain ⟨h1, _, _⟩ := cr_le l 0 _ 68719477761 (by omega) (by omega) h 5 (by omega)
 have hl : (cr l 0 5).1.length = 5 := by rw [cr_length]; exact h.1
 have e : (pass l).getD j 0 = (cr l 0 5).1.getD j 0 := by
  simp only [pass, List.getD_eq_getElem?_getD, List.getElem?_set]
  simp [show ¬ 0 = j by omega]
 rw [e]
 by_cases h5 : j < 5
 · have := h1 j h5; omega
 · rw [getD_none _ j (by omega)]; exact Nat.zero_le _
theorem carry_small (l : List Nat) (h : Le5 4611686018427387903 l) : Le5 67108863 (carryN l) := by
 obtain ⟨a1, a2⟩ := pass_first l h
 obtain ⟨b1, b2⟩ := pass_mid _ a1 a2
 exact pass_small _ b1 b2
/-- bounds of each state of a carry -/
theorem passes_le (l : List Nat) (h : Le5 4611686018427387903 l) (n : Nat) : Le5 4611686018427387903 (passes l n) := by
 induction n with
 | zero => exact h
 | succ n ih => exact (pass_le _ _ ih).mono (by decide)
theorem small_val (l : List Nat) (h : Le5 67108863 l) : val5 l < 2 ^ 130 := by
 have ha := getD_le h 0
 have hb := getD_le h 1
 have hc := getD_le h 2
 have hd := getD_le h 3
 have he := getD_le h 4
 simp only [val5]; omega
/-- the number below the modulus -/
def wholeN (l : List Nat) : List Nat := let x := carryN l; let y := cr x 5 5; if 0 < y.2 then y.1 else x
theorem whole_val (l : List Nat) (h : Le5 4611686018427387903 l) : val5 (wholeN l) = val5 l % polyP ∧ Le5 67108863 (wholeN l) := by
 have hs := carry_small l h
 have hm := passes_mod l 3 h.1
 rw [← hm]
 have hx : passes l 3 = carryN l := rfl
 rw [hx]
 have hl := small_val _ hs
 have hcv := cr_val (carryN l) 5 hs.1
 have hle := cr_le (carryN l) 5 67108863 5 (by decide) (by decide) hs 5 (by omega)
 have hlen := cr_length (carryN l) 5 5
 have hsm : Le5 67108863 (cr (carryN l) 5 5).1 := le5_of (by rw [hlen]; exact hs.1) fun j hj => by have := hle.1 j hj; omega
 have hl2 := small_val _ hsm
 have hP := polyP_eq
 simp only [wholeN]
 generalize cr (carryN l) 5 5 = y at *
 generalize carryN l = x at *
 obtain ⟨y1, c⟩ := y
 simp only at *
 by_cases hc : 0 < c
 · rw [if_pos hc]
   refine ⟨?_, hsm⟩
   have hc1 : c = 1 := by
    have : c * 2 ^ 130 ≤ val5 x + 5 := by omega
    have h2 : c < 2 := by
     apply Nat.lt_of_not_le; intro h2
     have : 2 * 2 ^ 130 ≤ c * 2 ^ 130 := Nat.mul_le_mul_right _ h2
     omega
    omega
   subst hc1
   have : val5 x = val5 y1 + polyP := by omega
   rw [this, Nat.add_mod_right, Nat.mod_eq_of_lt (by omega)]
 · rw [if_neg hc]
   refine ⟨?_, hs⟩
   have hc0 : c = 0 := by omega
   subst hc0
   rw [Nat.mod_eq_of_lt (by omega)]
def plus5 (x y : List Nat) : List Nat := (List.range 5).map fun i => x.getD i 0 + y.getD i 0
theorem plus5_val (x y : List Nat) : val5 (plus5 x y) = val5 x + val5 y := by
 show val5 [_, _, _, _, _] = _
 simp only [val5, List.getD_cons_zero, List.getD_cons_succ]; omega
theorem plus5_le {a b : Nat} {x y : List Nat} (hx : Le5 a x) (hy : Le5 b y) : Le5 (a + b) (plus5 x y) := by
 refine le5_of (by simp [plus5]) fun j hj => ?_
 have := getD_le hx j; have := getD_le hy j
 simp [plus5, hj] at *; omega
/-- limbs of a number of 128 bits, and one above -/
def split5 (low high top : Nat) : List Nat := [low % 67108864, low / 67108864 % 67108864, (low / 4503599627370496 + high * 4096) % 67108864, high / 16384 % 67108864, high / 1099511627776 + top * 16777216]
theorem split5_val (low high top : Nat) (hl : low < 2 ^ 64) (hh : high < 2 ^ 64) : val5 (split5 low high top) = low + 2 ^ 64 * high + 2 ^ 128 * top := by
 simp only [val5, split5, List.getD_cons_zero, List.getD_cons_succ]; omega
theorem split5_le (low high top : Nat) (_ : high < 2 ^ 64) (_ : top ≤ 1) : Le5 67108863 (split5 low high top) := by
 refine ⟨rfl, ?_⟩
 intro x hx
 simp only [split5, List.mem_cons, List.not_mem_nil, or_false] at hx
 omega
/-- a product, not carried -/
def tm (x y : List Nat) (i j : Nat) : Nat := if j ≤ i then x.getD j 0 * y.getD (i - j) 0 else x.getD j 0 * y.getD (5 + i - j) 0 * 5
def col (x y : List Nat) (i : Nat) : Nat → Nat
 | 0 => 0
 | j+1 => col x y i j + tm x y i j
def mulAt (x y : List Nat) (i j : Nat) : List Nat := (List.range 5).map fun k => if k < i then col x y k 5 else if k = i then col x y i j else 0
def mulN (x y : List Nat) : List Nat := mulAt x y 5 0
theorem mulN_eq (x y : List Nat) : mulN x y = [col x y 0 5, col x y 1 5, col x y 2 5, col x y 3 5, col x y 4 5] := rfl
theorem tm_le {a b : Nat} {x y : List Nat} (hx : Le5 a x) (hy : Le5 b y) (i j : Nat) : tm x y i j ≤ a * b * 5 := by
 have h1 := getD_le hx j
 have h2 := getD_le hy (i - j)
 have h3 := getD_le hy (5 + i - j)
 have h4 := Nat.mul_le_mul h1 h2
 have h5 := Nat.mul_le_mul h1 h3
 simp only [tm]
 split <;> omega
theorem col_le {a b : Nat} {x y : List Nat} (hx : Le5 a x) (hy : Le5 b y) (i j : Nat) : col x y i j ≤ j * (a * b * 5) := by
 induction j with
 | zero => simp [col]
 | succ j ih => have := tm_le hx hy i j; rw [col, Nat.succ_mul]; omega
theorem mulN_le {a b : Nat} {x y : List Nat} (hx : Le5 a x) (hy : Le5 b y) : Le5 (5 * (a * b * 5)) (mulN x y) := by
 refine le5_of (by simp [mulN, mulAt]) fun j hj => ?_
 have := col_le hx hy j 5
 simp [mulN, mulAt, hj]; omega
theorem mulN_val (x y : List Nat) (hx : x.length = 5) (hy : y.length = 5) : val5 (mulN x y) % polyP = val5 x * val5 y % polyP := by
 obtain ⟨a, b, c, d, e, rfl⟩ := five x hx
 obtain ⟨a', b', c', d', e', rfl⟩ := five y hy
 have h : ∃ k, val5 [a, b, c, d, e] * val5 [a', b', c', d', e'] = val5 (mulN [a, b, c, d, e] [a', b', c', d', e']) + k * polyP := by
  refine ⟨(b * e' + c * d' + d * c' + e * b') + 67108864 * (c * e' + d * d' + e * c') + 4503599627370496 * (d * e' + e * d') + 302231454903657293676544 * (e * e'), ?_⟩
  rw [mulN_eq]
  simp only [val5, col, tm, List.getD_cons_zero, List.getD_cons_succ, polyP]
  simp
  grind
 obtain ⟨k, hk⟩ := h
 rw [hk, Nat.add_mul_mod_self_right]
/-- one block, by limbs -/
theorem limb_step (x by' : List Nat) (r acc : Nat) (l : Bs) (low high top : Nat) (hx : Le5 67108863 x) (hb : Le5 67108863 by') (hr : val5 by' = r)
 (hacc : val5 x % polyP = acc % polyP) (hl : low < 2 ^ 64) (hh : high < 2 ^ 64) (ht : top ≤ 1) (hw : low + 2 ^ 64 * high + 2 ^ 128 * top = leN (l ++ [1])) :
 let z := carryN (mulN (plus5 x (split5 low high top)) by')
 Le5 67108863 z ∧ val5 z % polyP = pstep r acc l := by
 have hs := split5_le low high top hh ht
 have hp := plus5_le hx hs
 have hm := mulN_le hp hb
 refine ⟨carry_small _ (hm.mono (by decide)), ?_⟩
 show val5 (passes _ 3) % polyP = _
 rw [passes_mod _ _ hm.1, mulN_val _ _ hp.1 hb.1, plus5_val, split5_val _ _ _ hl hh, hw, hr]
 rw [pstep, Nat.mul_mod, Nat.add_mod, hacc, ← Nat.add_mod, ← Nat.mul_mod]
end Go.Esc
namespace Go.Esc
/-- the value of digits, the lowest first; a digit may be more than 255 -/
def leV : List Nat → Nat
 | [] => 0
 | c :: l => c + 256 * leV l
theorem leV_append (a b : List Nat) : leV (a ++ b) = leV a + 256 ^ a.length * leV b := by
 induction a with
 | nil => simp [leV]
 | cons c a ih => simp only [List.cons_append, leV, ih, List.length_cons, Nat.pow_succ']; rw [Nat.mul_add, Nat.mul_assoc]; omega
theorem leV_zeros (n : Nat) : leV (List.replicate n 0) = 0 := by
 induction n with
 | zero => rfl
 | succ n ih => simp [List.replicate_succ, leV, ih]
theorem leV_set (l : List Nat) (k d : Nat) (h : k < l.length) : leV (l.set k (l.getD k 0 + d)) = leV l + 256 ^ k * d := by
 induction l generalizing k with
 | nil => simp at h
 | cons c l ih =>
   cases k with
   | zero => simp [leV]; omega
   | succ k =>
     simp only [List.length_cons] at h
     have := ih k (by omega)
     simp only [List.set_cons_succ, List.getD_cons_succ, leV, this, Nat.pow_succ', Nat.mul_add, Nat.mul_assoc]; omega
theorem leV_take_succ (l : List Nat) (k : Nat) (h : k < l.length) : leV (l.take (k+1)) = leV (l.take k) + 256 ^ k * l.getD k 0 := by
 rw [List.take_succ_eq_append_getElem h, leV_append, List.length_take, Nat.min_eq_left (Nat.le_of_lt h)]
 simp [leV, List.getD_eq_getElem?_getD, List.getElem?_eq_getElem h]
theorem leV_take_drop (l : List Nat) (k : Nat) (h : k ≤ l.length) : leV l = leV (l.take k) + 256 ^ k * leV (l.drop k) := by
 conv => lhs; rw [← List.take_append_drop k l]
 rw [leV_append, List.length_take, Nat.min_eq_left h]
theorem leV_lt {l : List Nat} (h : ∀ x ∈ l, x < 256) : leV l < 256 ^ l.length := by
 induction l with
 | nil => simp [leV]
 | cons c l ih =>
   have h1 := h c (by simp)
   have h2 := ih fun x hx => h x (by simp [hx])
   simp only [leV, List.length_cons, Nat.pow_succ']; omega
theorem leN_leV (l : Bs) : leN l = leV (l.map UInt8.toNat) := by
 induction l with
 | nil => rfl
 | cons c l ih => simp [leN, leV, ih]
theorem leN_append (a b : Bs) : leN (a ++ b) = leN a + 256 ^ a.length * leN b := by
 simp only [leN_leV, List.map_append, leV_append, List.length_map]
theorem leN_lt (l : Bs) : leN l < 256 ^ l.length := by
 rw [leN_leV]
 have := leV_lt (l := l.map UInt8.toNat) (by simp only [List.mem_map]; rintro _ ⟨c, _, rfl⟩; exact c.toNat_lt)
 simpa using this
theorem leN_take_drop (l : Bs) (k : Nat) (h : k ≤ l.length) : leN l = leN (l.take k) + 256 ^ k * leN (l.drop k) := by
 conv => lhs; rw [← List.take_append_drop k l]
 rw [leN_append, List.length_take, Nat.min_eq_left h]
theorem leN_zeros (n : Nat) : leN (List.replicate n 0) = 0 := by
 induction n with
 | zero => rfl
 | succ n ih => simp [List.replicate_succ, leN, ih]
theorem leN_pad (l : Bs) (n : Nat) : leN (l ++ List.replicate n 0) = leN l := by rw [leN_append, leN_zeros]; simp
/-! bytes of a number, the lowest first -/
theorem putL_length (v n : Nat) : (putL v n).length = n := by
 induction n generalizing v with
 | zero => rfl
 | succ n ih => simp [putL, ih]
theorem putL_append (v m n : Nat) : putL v (m + n) = putL v m ++ putL (v / 256 ^ m) n := by
 induction m generalizing v with
 | zero => simp [putL]
 | succ m ih =>
   rw [show m + 1 + n = (m + n) + 1 by omega]
   simp only [putL, ih, List.cons_append]
   rw [Nat.div_div_eq_div_mul, ← Nat.pow_succ']
theorem ofNat_mod (v : Nat) : UInt8.ofNat (v % 256) = UInt8.ofNat v := by
 apply UInt8.toNat_inj.1; simp
theorem putL_mod (v n : Nat) : putL (v % 256 ^ n) n = putL v n := by
 induction n generalizing v with
 | zero => rfl
 | succ n ih =>
   simp only [putL]
   have h1 : v % 256 ^ (n+1) / 256 = v / 256 % 256 ^ n := by
    rw [Nat.pow_succ', Nat.mod_mul_right_div_self]
   have h2 : UInt8.ofNat (v % 256 ^ (n+1)) = UInt8.ofNat v := by
    rw [← ofNat_mod (v % 256 ^ (n+1)), ← ofNat_mod v, Nat.pow_succ', Nat.mod_mul_right_mod]
   rw [h1, ih, h2]
theorem putL_digits {l : List Nat} (h : ∀ x ∈ l, x < 256) : putL (leV l) l.length = l.map UInt8.ofNat := by
 induction l with
 | nil => rfl
 | cons c l ih =>
   have h1 := h c (by simp)
   have h2 := ih fun x hx => h x (by simp [hx])
   simp only [leV, List.length_cons, putL, List.map_cons]
   rw [show (c + 256 * leV l) / 256 = leV l by omega, h2, ← ofNat_mod, show (c + 256 * leV l) % 256 = c by omega]
theorem putL_take {l : List Nat} (h : ∀ x ∈ l, x < 256) (n : Nat) (hn : n ≤ l.length) : putL (leV l) n = (l.take n).map UInt8.ofNat := by
 have h1 := leV_take_drop l n hn
 have h2 := putL_digits (l := l.take n) fun x hx => h x (List.mem_of_mem_take hx)
 rw [List.length_take, Nat.min_eq_left hn] at h2
 rw [← h2, ← putL_mod, h1, Nat.add_mul_mod_self_left, putL_mod]
theorem leN_putL (v n : Nat) : leN (putL v n) = v % 256 ^ n := by
 induction n generalizing v with
 | zero => simp [putL, leN, Nat.mod_one]
 | succ n ih =>
   simp only [putL, leN, ih]
   rw [Nat.pow_succ', Nat.mod_mul]
   simp
/-! Carrying. -/
/-- what carry gives: digits below 256, at least 18, of the same value -/
structure Carried (x out : List Nat) : Prop where
 small : ∀ d ∈ out, d < 256
 val : leV out = leV x
 long : 18 ≤ out.length
 most : out.length ≤ max 18 (x.length + 6)
 fit : leV x < 256 ^ x.length → out.length = max 18 x.length
/-- the state of a carry behind k rounds -/
structure Carry (x : List Nat) (k : Nat) (out : List Nat) (c : Nat) : Prop where
 len : out.length = k
 small : ∀ d ∈ out, d < 256
 val : leV out + 256 ^ k * c = leV (x.take k)
 room : c * 256 ^ (k - x.length) ≤ 1099511627776
theorem Carry.start (x : List Nat) : Carry x 0 [] 0 := ⟨rfl, by simp, by simp [leV], by simp⟩
theorem Carry.round {x : List Nat} {k : Nat} {out : List Nat} {c : Nat} (h : Carry x k out c) (hx : ∀ d ∈ x, d ≤ 1099511627776) (hk : k < x.length) :
 Carry x (k+1) (out ++ [(c + x.getD k 0) % 256]) ((c + x.getD k 0) / 256) := by
 have hd : x.getD k 0 ≤ 1099511627776 := by
  simp only [List.getD_eq_getElem?_getD, List.getElem?_eq_getElem hk]; exact hx _ (List.getElem_mem hk)
 have hr := h.room
 rw [show k - x.length = 0 by omega] at hr
 refine ⟨by simp [h.len], ?_, ?_, ?_⟩
 · intro d hd
   rcases List.mem_append.1 hd with h1 | h1
   · exact h.small d h1
   · rw [List.mem_singleton] at h1; subst h1; exact Nat.mod_lt _ (by decide)
 · rw [leV_append, h.len, leV_take_succ x k hk, ← h.val]
   simp only [leV, Nat.pow_succ, Nat.mul_assoc, Nat.add_assoc, ← Nat.mul_add]
   congr 2
   omega
 · rw [show k + 1 - x.length = 0 by omega]; omega
theorem Carry.more {x : List Nat} {k : Nat} {out : List Nat} {c : Nat} (h : Carry x k out c) (hk : x.length ≤ k) :
 Carry x (k+1) (out ++ [c % 256]) (c / 256) := by
 have hr := h.room
 refine ⟨by simp [h.len], ?_, ?_, ?_⟩
 · intro d hd
   rcases List.mem_append.1 hd with h1 | h1
   · exact h.small d h1
   · rw [List.mem_singleton] at h1; subst h1; exact Nat.mod_lt _ (by decide)
 · rw [leV_append, h.len, List.take_of_length_le (by omega)]
   have hv := h.val
   rw [List.take_of_length_le hk] at hv
   rw [← hv]
   simp only [leV, Nat.pow_succ, Nat.mul_assoc, Nat.add_assoc, ← Nat.mul_add]
   congr 2
   omega
 · rw [show k + 1 - x.length = (k - x.length) + 1 by omega, Nat.pow_succ, ← Nat.mul_assoc, Nat.mul_right_comm]
   refine Nat.le_trans (Nat.mul_le_mul_right _ (Nat.div_mul_le_self c 256)) hr
theorem Carry.long {x : List Nat} {k : Nat} {out : List Nat} {c : Nat} (h : Carry x k out c) (hc : 0 < c) : k ≤ x.length + 5 := by
 apply Nat.le_of_not_lt; intro hk
 have h1 : 256 ^ 6 ≤ 256 ^ (k - x.length) := Nat.pow_le_pow_right (by decide) (by omega)
 have h2 : 1 * 256 ^ (k - x.length) ≤ c * 256 ^ (k - x.length) := Nat.mul_le_mul_right _ hc
 have := h.room
 have : (256 : Nat) ^ 6 = 281474976710656 := by decide
 omega
theorem Carry.bound {x : List Nat} {k : Nat} {out : List Nat} {c : Nat} (h : Carry x k out c) : c ≤ 1099511627776 := by
 have h1 : 1 ≤ 256 ^ (k - x.length) := Nat.one_le_pow _ _ (by decide)
 have h2 := h.room
 have : c * 1 ≤ c * 256 ^ (k - x.length) := Nat.mul_le_mul_left _ h1
 omega
/-- how far it goes: a value that fits into x's places leaves nothing behind them -/
theorem Carry.fits {x : List Nat} {k : Nat} {out : List Nat} {c : Nat} (h : Carry x k out c) (hv : leV x < 256 ^ x.length) (hk : x.length ≤ k) : c = 0 := by
 have h1 := h.val
 rw [List.take_of_length_le hk] at h1
 apply Nat.eq_zero_of_not_pos; intro hc
 have h2 : 256 ^ k * 1 ≤ 256 ^ k * c := Nat.mul_le_mul_left _ hc
 have h3 : 256 ^ x.length ≤ 256 ^ k := Nat.pow_le_pow_right (by decide) hk
 omega
/-- when the first loop is over -/
theorem Carry.stop {x : List Nat} {k : Nat} {out : List Nat} (h : Carry x k out 0) (hk : x.length ≤ k) (hk6 : k ≤ x.length + 6) (hf : leV x < 256 ^ x.length → k = x.length) :
 Carried x (out ++ List.replicate (18 - out.length) 0) := by
 have hv := h.val
 rw [List.take_of_length_le hk] at hv
 refine ⟨?_, ?_, ?_, ?_, fun hl => ?_⟩
 · intro d hd
   rcases List.mem_append.1 hd with h1 | h1
   · exact h.small d h1
   · rw [(List.mem_replicate.1 h1).2]; decide
 · rw [leV_append, leV_zeros]; omega
 · simp; omega
 · simp [h.len]; omega
 · have := hf hl; simp [h.len]; omega
/-! Folding. -/
/-- what lies above the second bit, digit by digit -/
def qd : List Nat → List Nat
 | [] => []
 | c :: l => (c / 4 + l.headD 0 % 4 * 64) :: qd l
theorem qd_length (l : List Nat) : (qd l).length = l.length := by induction l <;> simp [qd, *]
theorem qd_val (l : List Nat) : 4 * leV (qd l) + l.headD 0 % 4 = leV l := by
 induction l with
 | nil => rfl
 | cons c l ih => simp only [qd, leV, List.headD_cons]; omega
theorem qd_get (l : List Nat) (k : Nat) (h : k < l.length) : (qd l).getD k 0 = l.getD k 0 / 4 + (if k + 1 < l.length then l.getD (k+1) 0 % 4 * 64 else 0) := by
 induction l generalizing k with
 | nil => simp at h
 | cons c l ih =>
   cases k with
   | zero =>
     cases l with
     | nil => simp [qd]
     | cons d l => simp [qd]
   | succ k =>
     simp only [List.length_cons] at h
     simp only [qd, List.getD_cons_succ, List.length_cons, ih k (by omega)]
     simp
/-- the sum of the first k steps of a fold, of digits x: value and greatest digit -/
def foldAt (x : List Nat) (k : Nat) : Nat :=
 leV ((x.take 16).take k) + (if 16 < k then 256 ^ 16 * (x.getD 16 0 % 4) else 0) + 5 * leV ((qd (x.drop 16)).take (k - 16))
theorem foldAt_zero (x : List Nat) : foldAt x 0 = 0 := by simp [foldAt, leV]
theorem foldAt_low (x : List Nat) (k : Nat) (h : k < 16) (hx : k < x.length) : foldAt x (k+1) = foldAt x k + 256 ^ k * x.getD k 0 := by
 simp only [foldAt, show ¬ 16 < k by omega, show ¬ 16 < k + 1 by omega, if_false, show k - 16 = 0 by omega, show k + 1 - 16 = 0 by omega]
 rw [leV_take_succ _ k (by simp; omega)]
 simp [List.getD_eq_getElem?_getD, List.getElem?_take, h, leV]
theorem foldAt_high (x : List Nat) (k : Nat) (h : 16 ≤ k) (hx : k < x.length) :
 foldAt x (k+1) = foldAt x k + (if k = 16 then 256 ^ 16 * (x.getD 16 0 % 4) else 0) + 256 ^ (k - 16) * (5 * (x.getD k 0 / 4 + (if k + 1 < x.length then x.getD (k+1) 0 % 4 * 64 else 0))) := by
 have e1 : (x.take 16).take (k+1) = x.take 16 := List.take_of_length_le (by simp; omega)
 have e2 : (x.take 16).take k = x.take 16 := List.take_of_length_le (by simp; omega)
 simp only [foldAt, e1, e2, show 16 < k + 1 by omega, if_true, show k + 1 - 16 = (k - 16) + 1 by omega]
 rw [leV_take_succ _ (k - 16) (by rw [qd_length]; simp; omega), qd_get _ _ (by simp; omega)]
 simp only [List.getD_eq_getElem?_getD, List.getElem?_drop, List.length_drop]
 rw [show 16 + (k - 16) = k by omega, show 16 + (k - 16 + 1) = k + 1 by omega]
 have e3 : (k - 16 + 1 < x.length - 16) ↔ (k + 1 < x.length) := by omega
 simp only [e3]
 by_cases hk : k = 16
 · subst hk
   simp only [Nat.lt_irrefl, if_false, if_true, Nat.mul_add, Nat.mul_left_comm]
   omega
 · simp only [show 16 < k by omega, hk, if_true, if_false, Nat.mul_add, Nat.mul_left_comm]
   omega
/-- the fold's whole sum -/
theorem foldAt_all (x : List Nat) (h : 16 < x.length) : foldAt x x.length + leV (qd (x.drop 16)) * polyP = leV x := by
 have h1 := leV_take_drop x 16 (by omega)
 have h2 := qd_val (x.drop 16)
 have h3 : (x.drop 16).headD 0 = x.getD 16 0 := by
  simp [List.headD_eq_head?_getD, List.head?_drop, List.getD_eq_getElem?_getD]
 rw [h3] at h2
 have e1 : (x.take 16).take x.length = x.take 16 := List.take_of_length_le (by simp; omega)
 have e2 : (qd (x.drop 16)).take (x.length - 16) = qd (x.drop 16) := List.take_of_length_le (by rw [qd_length]; simp)
 simp only [foldAt, e1, e2, h, if_true]
 have e3 : (256 : Nat) ^ 16 = 340282366920938463463374607431768211456 := by decide
 rw [e3] at h1 ⊢
 simp only [polyP]
 omega
/-- it goes on just if something lies above -/
def highAt (x : List Nat) (k : Nat) : Bool := (List.range k).any fun i => decide (16 ≤ i) && decide (0 < (qd (x.drop 16)).getD (i - 16) 0)
theorem highAt_succ (x : List Nat) (k : Nat) : highAt x (k+1) = (highAt x k || (decide (16 ≤ k) && decide (0 < (qd (x.drop 16)).getD (k - 16) 0))) := by
 simp [highAt, List.range_succ, List.any_append]
theorem leV_zero {l : List Nat} : leV l = 0 ↔ ∀ x ∈ l, x = 0 := by
 induction l with
 | nil => simp [leV]
 | cons c l ih =>
   simp only [leV, List.mem_cons, forall_eq_or_imp, ← ih]
   omega
theorem highAt_all (x : List Nat) (h : 16 < x.length) : highAt x x.length = true ↔ 0 < leV (qd (x.drop 16)) := by
 have : (highAt x x.length = false) ↔ leV (qd (x.drop 16)) = 0 := by
  rw [leV_zero]
  simp only [highAt, List.any_eq_false, List.mem_range, Bool.and_eq_true, decide_eq_true_eq, not_and]
  constructor
  · intro hh y hy
    obtain ⟨j, hj, rfl⟩ := List.getElem_of_mem hy
    rw [qd_length, List.length_drop] at hj
    have := hh (j + 16) (by omega) (by omega)
    rw [Nat.add_sub_cancel, List.getD_eq_getElem?_getD, List.getElem?_eq_getElem (by rw [qd_length, List.length_drop]; omega)] at this
    simp at this
    omega
  · intro hh i hi h16
    have hl : i - 16 < (qd (x.drop 16)).length := by rw [qd_length, List.length_drop]; omega
    have := hh _ (List.getElem_mem hl)
    rw [List.getD_eq_getElem?_getD, List.getElem?_eq_getElem hl]
    simp [this]
 cases hb : highAt x x.length
 · have := this.1 hb; simp; omega
 · simp
   apply Nat.pos_of_ne_zero
   intro h0
   rw [this.2 h0] at hb; cases hb
/-- what a fold gives: 18 digits below 256 of the same rest, below 2 to the 130th -/
structure Folded (x : List Nat) (out : List Nat) : Prop where
 small : ∀ d ∈ out, d < 256
 len : out.length = 18
 lt : leV out < 2 ^ 130
 mod : leV out % polyP = leV x % polyP
/-- nothing above: below 2 to the 130th -/
theorem low_of {x : List Nat} (hs : ∀ d ∈ x, d < 256) (h : 16 < x.length) (hh : highAt x x.length = false) : foldAt x x.length = leV x ∧ leV x < 2 ^ 130 := by
 have h0 : leV (qd (x.drop 16)) = 0 := by
  apply Nat.eq_zero_of_not_pos; intro h1
  rw [(highAt_all x h).2 h1] at hh; cases hh
 have h1 := foldAt_all x h
 rw [h0] at h1
 refine ⟨by omega, ?_⟩
 have h2 := qd_val (x.drop 16)
 rw [h0] at h2
 have h3 := leV_take_drop x 16 (by omega)
 have h4 := leV_lt (l := x.take 16) fun d hd => hs d (List.mem_of_mem_take hd)
 rw [List.length_take, Nat.min_eq_left (by omega)] at h4
 have e3 : (256 : Nat) ^ 16 = 340282366920938463463374607431768211456 := by decide
 rw [e3] at h3 h4
 omega
theorem take18 {x : List Nat} (h : 18 ≤ x.length) (hv : leV x < 2 ^ 130) : leV (x.take 18) = leV x := by
 have h3 := leV_take_drop x 18 h
 have : (256 : Nat) ^ 18 = 22300745198530623141535718272648361505980416 := by decide
 rw [this] at h3
 have h0 : leV (x.drop 18) = 0 := by omega
 rw [h0] at h3; omega
theorem Folded.of {x y : List Nat} (hy : Carried y x) (hv : leV y < 2 ^ 130) : Folded y (x.take 18) := by
 have e := take18 hy.long (by rw [hy.val]; exact hv)
 refine ⟨fun d hd => hy.small d (List.mem_of_mem_take hd), by have := hy.long; simp; omega, by rw [e, hy.val]; exact hv, by rw [e, hy.val]⟩
theorem Folded.trans {x y z : List Nat} (h : leV x % polyP = leV y % polyP) (k : Folded y z) : Folded x z := ⟨k.small, k.len, k.lt, by rw [k.mod, h]⟩
/-- a round of a fold that goes on lowers the value -/
theorem fold_less {x : List Nat} (h : 16 < x.length) (hh : highAt x x.length = true) : foldAt x x.length < leV x := by
 have h1 := foldAt_all x h
 have h2 := (highAt_all x h).1 hh
 have h3 : 1 * polyP ≤ leV (qd (x.drop 16)) * polyP := Nat.mul_le_mul_right _ h2
 have : 0 < polyP := by decide
 omega
theorem fold_mod {x : List Nat} (h : 16 < x.length) : foldAt x x.length % polyP = leV x % polyP := by
 rw [← foldAt_all x h, Nat.add_mul_mod_self_right]
/-- the last: 5 more, if that comes to 2 to the 130th -/
theorem last_mod (v : Nat) (h : v < 2 ^ 130) : (if 2 ^ 130 ≤ v + 5 then v + 5 else v) % 2 ^ 128 = v % polyP % 2 ^ 128 := by
 have hP := polyP_eq
 by_cases h1 : 2 ^ 130 ≤ v + 5
 · rw [if_pos h1, Nat.mod_eq_sub_mod (a := v) (b := polyP) (by omega), Nat.mod_eq_of_lt (a := v - polyP) (by omega)]
   have : v + 5 = (v - polyP) + 2 ^ 130 := by omega
   rw [this]; omega
 · rw [if_neg h1, Nat.mod_eq_of_lt (a := v) (b := polyP) (by omega)]
/-- the seventeenth and eighteenth digit tell it -/
theorem top_digits {x : List Nat} (hs : ∀ d ∈ x, d < 256) (h : 18 ≤ x.length) (hv : leV x < 2 ^ 131) : (4 ≤ x.getD 16 0 ∨ 0 < x.getD 17 0) ↔ 2 ^ 130 ≤ leV x := by
 have h3 := leV_take_drop x 16 (by omega)
 have h4 := leV_lt (l := x.take 16) fun d hd => hs d (List.mem_of_mem_take hd)
 rw [List.length_take, Nat.min_eq_left (by omega)] at h4
 have h5 := leV_take_drop (x.drop 16) 1 (by simp; omega)
 have h6 : leV ((x.drop 16).take 1) = x.getD 16 0 := by
  have := leV_take_succ (x.drop 16) 0 (by simp; omega)
  simpa [leV, List.getD_eq_getElem?_getD] using this
 rw [h6, List.drop_drop] at h5
 have h7 : leV (x.drop 17) = x.getD 17 0 + 256 * leV (x.drop 18) := by
  rw [List.drop_eq_getElem_cons (by omega), leV]
  simp [List.getD_eq_getElem?_getD, List.getElem?_eq_getElem (show 17 < x.length by omega)]
 have h8 : x.getD 16 0 < 256 := by
  rw [List.getD_eq_getElem?_getD, List.getElem?_eq_getElem (by omega)]; exact hs _ (List.getElem_mem _)
 have e3 : (256 : Nat) ^ 16 = 340282366920938463463374607431768211456 := by decide
 rw [e3] at h3 h4
 simp only [Nat.reduceAdd] at h5
 omega
end Go.Esc
namespace Go.Esc
open Go Go.RowKit
/-- A word of 32 bits as a value. -/
def W (x : BitVec 32) : Value := .int .u32 (x.toNat : Int)
/-- A word of 64 bits as a value. -/
def D (x : BitVec 64) : Value := .int .u64 (x.toNat : Int)
/-- A byte as a value. -/
def B (x : UInt8) : Value := .int .u8 (x.toNat : Int)
section
variable {P : Program}
end
theorem bits_or256 (x c : Nat) (hx : x ≤ 72057594037927935) (hc : c < 256) : Go.bits .or .u64 ((x : Int) * 256) (c : Int) = ((x * 256 + c : Nat) : Int) := by
 rw [u64_or _ _ (by omega) (by omega) (by omega) (by omega)]
 have e : ((x : Int) * 256).toNat = x * 256 := by omega
 rw [e, Int.toNat_natCast, nat_join8 _ _ (by omega) hc]
/-- Bytes as the model's bytes. -/
def bs (l : List UInt8) : ByteArray := ⟨l.toArray⟩
/-- A text as a value. -/
abbrev S (l : List UInt8) : Value := .string (bs l)
theorem bs_size (l : List UInt8) : (bs l).size = l.length := by simp [bs, ByteArray.size]
theorem bs_append (a b : List UInt8) : bs a ++ bs b = bs (a ++ b) := by
 apply ByteArray.ext; simp [bs, ByteArray.data_append]
theorem bs_extract (a : List UInt8) (i j : Nat) : (bs a).extract i j = bs ((a.take j).drop i) := by
 apply ByteArray.ext
 rw [ByteArray.data_extract]
 apply Array.ext'
 simp [bs, List.drop_take]
theorem bs_toList (a : List UInt8) : (bs a).toList = a := by rw [ByteArray.toList_eq]; simp [bs]
theorem bs_get (l : List UInt8) (k : Nat) (h : k < (bs l).size) : (bs l)[k]'h = l[k]'(by rw [bs_size] at h; exact h) := by
 show (bs l).data[k] = _
 simp [bs]
attribute [go_sem, simp] bs_size bs_append bs_extract bs_toList bs_get
theorem bs_eta (s : ByteArray) : s = bs s.data.toList := by apply ByteArray.ext; simp [bs]
theorem bs_inj {a b : List UInt8} (h : bs a = bs b) : a = b := by have := congrArg (fun s => s.data.toList) h; simpa [bs] using this
/-- Bytes as cells. -/
def cells (l : List UInt8) : List Value := l.map B
theorem cells_length (l : List UInt8) : (cells l).length = l.length := by simp [cells]
theorem cells_get (l : List UInt8) (j : Nat) (h : j < l.length) : (cells l)[j]? = some (.int .u8 (l[j].toNat : Int)) := by simp [cells, h, B]
theorem cells_set (l : List UInt8) (j : Nat) (c : UInt8) : (cells l).set j (.int .u8 (c.toNat : Int)) = cells (l.set j c) := by simp [cells, List.map_set, B]
theorem madeZ (n : Nat) : (madeCells (Value.cells (.int .u8 0)) (n * 1)).toList = cells (List.replicate n 0) := by
 show (madeCells #[.int .u8 0] (n*1)).toList = _
 rw [toList_madeCells_one]; simp [cells, B]
theorem own_conv {P : Program} {w : World} {b e g n cap : Nat} {l : List UInt8} (s d : TypeId) (h : w.ownsRow b e 1 (.slice (some ⟨g, 0, none⟩) n cap) n (cells l))
 (hs : P.underlying s = some (.slice e)) (he : P.underlying e = some (.int .u8)) (hd : P.underlying d = some .string) :
 (convert s d (.slice (some ⟨g, 0, none⟩) n cap)).run P w = .ok (S l) w := by
 have hl : l.length = n := by have := h.1; rw [cells_length] at this; omega
 subst hl
 refine run_convert_bytes_back w s d e ⟨g,0,none⟩ cap l hs he hd fun j hj => ?_
 have := h.cellAt j (by omega)
 rw [cells_get _ _ hj] at this
 rw [← this]; simp only [Addr.add]; split <;> simp_all
/-- The world w' has new blocks at the most. -/
abbrev Pu (w w' : World) : Prop := Below w.heap.size w w'
theorem Pu.trans {a b c : World} (h : Pu a b) (k : Pu b c) : Pu a c := Below.trans h (Below.mono k h.size)
theorem Pu.alloc {a b : World} (h : Pu a b) (o : Obj) : Pu a (b.alloc o) := Below.alloc h h.size o
theorem Pu.cell {a b : World} (h : Pu a b) (k o : Nat) (hk : k < a.heap.size) : b.cell? ⟨k, o, none⟩ = a.cell? ⟨k, o, none⟩ := Below.cell h (p := ⟨k,o,none⟩) hk
theorem Pu.frozen {a b : World} (h : Pu a b) (k o : Nat) (hk : k < a.heap.size) : b.frozen? ⟨k, o, none⟩ = a.frozen? ⟨k, o, none⟩ := Below.frozen h (p := ⟨k,o,none⟩) hk
/-- Block g is a row of cells of type e which begin with xs; none of these is frozen. -/
def Row (w : World) (g : Nat) (e : TypeId) (xs : List Value) : Prop :=
 ∃ (c : Array Value) (fr : Nat × Nat), w.heap[g]? = some (.cells c e fr) ∧ c.toList.take xs.length = xs ∧ (fr.1 = fr.2 ∨ xs.length ≤ fr.1)
theorem Row.lt {w : World} {g : Nat} {e : TypeId} {xs : List Value} (h : Row w g e xs) : g < w.heap.size := by
 obtain ⟨c, fr, h, _⟩ := h
 exact (Array.getElem?_eq_some_iff.1 h).1
theorem take_get {α : Type} {c xs : List α} (h : c.take xs.length = xs) (j : Nat) (hj : j < xs.length) : c[j]? = xs[j]? := by
 have : xs[j]? = (c.take xs.length)[j]? := by rw [h]
 rw [this, List.getElem?_take, if_pos hj]
theorem Row.cell {w : World} {g : Nat} {e : TypeId} {xs : List Value} (h : Row w g e xs) (j : Nat) (hj : j < xs.length) : w.cell? ⟨g, j, none⟩ = some xs[j] := by
 obtain ⟨c, fr, hg, hc, _⟩ := h
 simp only [World.cell?, hg]
 have := take_get hc j hj
 simp at this ⊢
 rw [this, List.getElem?_eq_getElem hj]
theorem Row.cell' {w : World} {g : Nat} {e : TypeId} {xs : List Value} (h : Row w g e xs) (j : Nat) (hj : j < xs.length) : w.cell? ⟨g, j, none⟩ = xs[j]? := by
 rw [h.cell j hj, List.getElem?_eq_getElem hj]
theorem Row.frozen {w : World} {g : Nat} {e : TypeId} {xs : List Value} (h : Row w g e xs) (j : Nat) (hj : j < xs.length) : w.frozen? ⟨g, j, none⟩ = false := by
 obtain ⟨c, fr, hg, hc, hf⟩ := h
 simp only [World.frozen?, hg]
 simp; omega
theorem Row.set {w : World} {g : Nat} {e : TypeId} {xs : List Value} (h : Row w g e xs) (j : Nat) (v : Value) : Row (w.setCell ⟨g, j, none⟩ v) g e (xs.set j v) := by
 obtain ⟨c, fr, hg, hc, hf⟩ := h
 refine ⟨c.setIfInBounds j v, fr, ?_, ?_, by simpa using hf⟩
 · simp only [World.setCell, Array.getElem?_modify, if_pos, hg]; simp
 · rw [List.length_set, Array.toList_setIfInBounds, List.take_set, hc]
theorem Row.other {w w' : World} {g : Nat} {e : TypeId} {xs : List Value} (h : Row w g e xs) (hb : w'.heap[g]? = w.heap[g]?) : Row w' g e xs := by
 obtain ⟨c, fr, hg, r⟩ := h
 exact ⟨c, fr, by rw [hb, hg], r⟩
theorem Row.below {B : Nat} {w w' : World} {g : Nat} {e : TypeId} {xs : List Value} (h : Row w g e xs) (hb : Below B w w') (hg : g < B) : Row w' g e xs := h.other (hb.block g hg)
theorem Row.pu {w w' : World} {g : Nat} {e : TypeId} {xs : List Value} (h : Row w g e xs) (hb : Pu w w') : Row w' g e xs := h.other (hb.block g h.lt)
theorem Row.setOther {w : World} {g : Nat} {e : TypeId} {xs : List Value} (h : Row w g e xs) (a : Addr) (v : Value) (hne : g ≠ a.block) : Row (w.setCell a v) g e xs := h.other (Below.heap_setCell _ _ _ _ hne)
theorem Row.alloc {w : World} {g : Nat} {e : TypeId} {xs : List Value} (h : Row w g e xs) (o : Obj) : Row (w.alloc o) g e xs := h.other (Below.heap_alloc _ _ _ h.lt)
theorem Row.drew {w : World} {g : Nat} {e : TypeId} {xs : List Value} (h : Row w g e xs) : Row w.drew g e xs := h
theorem Row.new (w : World) (c : Array Value) (e : TypeId) : Row (w.alloc (.cells c e)) w.heap.size e c.toList :=
 ⟨c, (0, 0), by show (w.heap.push _)[w.heap.size]? = _; simp, List.take_of_length_le (by simp), .inl rfl⟩
theorem Row.take {w : World} {g : Nat} {e : TypeId} {xs : List Value} (h : Row w g e xs) (n : Nat) : Row w g e (xs.take n) := by
 obtain ⟨c, fr, hg, hc, hf⟩ := h
 refine ⟨c, fr, hg, ?_, ?_⟩
 · conv => rhs; rw [← hc]
   rw [List.take_take, List.length_take]
 · rw [List.length_take]; omega
theorem Row.left {w : World} {g : Nat} {e : TypeId} {xs ys : List Value} (h : Row w g e (xs ++ ys)) : Row w g e xs := by
 have := h.take xs.length; simpa using this
theorem Row.own {w : World} {b e g n cap : Nat} {xs : List Value} (h : w.ownsRow b e 1 (.slice (some ⟨g, 0, none⟩) n cap) n xs) : Row w g e xs := by
 obtain ⟨hl, h⟩ := h
 rcases h with ⟨h', _⟩ | ⟨g', cap', cur, h', _, hg, _, _, _, htake⟩
 · simp at h'
 · simp only [Value.slice.injEq, Option.some.injEq, Addr.mk.injEq, and_true, true_and] at h'
   obtain ⟨rfl, rfl⟩ := h'
   exact ⟨cur, (0,0), hg, by rw [hl]; exact htake, .inl rfl⟩
theorem Row.byte {w : World} {g : Nat} {e : TypeId} {l : List UInt8} (h : Row w g e (cells l)) (j : Nat) (hj : j < l.length) : w.cell? ⟨g, j, none⟩ = some (.int .u8 (l[j].toNat : Int)) := by
 have := h.cell j (by rw [cells_length]; exact hj)
 simpa [cells, B] using this
theorem Row.conv {P : Program} {w : World} {e g n cap : Nat} {l : List UInt8} (s d : TypeId) (h : Row w g e (cells l)) (hn : n = l.length)
 (hs : P.underlying s = some (.slice e)) (he : P.underlying e = some (.int .u8)) (hd : P.underlying d = some .string) :
 (convert s d (.slice (some ⟨g, 0, none⟩) n cap)).run P w = .ok (S l) w := by
 subst hn
 refine run_convert_bytes_back w s d e ⟨g,0,none⟩ cap l hs he hd fun j hj => ?_
 have := h.cell j (by rw [cells_length]; exact hj)
 simp only [cells, List.getElem_map, B] at this
 rw [← this]; simp only [Addr.add]; split <;> simp_all
theorem Row.bytes (w : World) (s : List UInt8) (cap : Nat) (e : TypeId) : Row (w.drew.alloc (.cells (bytesRow (bs s) cap) e ((bytesRow (bs s) cap).size, (bytesRow (bs s) cap).size + 1))) w.heap.size e (cells s) := by
 refine ⟨_, _, (by show (w.heap.push _)[w.heap.size]? = _; exact Array.getElem?_push_size), ?_, .inr ?_⟩
 · rw [cells_length]
   simp [bytesRow, cells, bs]
   exact fun _ _ => rfl
 · simp [bytesRow, cells_length, bs]
/-- '[]byte(s)': a new row that begins with s. -/
theorem wpList_bytes {P : Program} (w : World) {ops : Array Oper} {rest : List Oper} {o : Oper} {a : Act} {Q : Exit → Act → World → Prop}
 (hg : o.guard = none) (x : Operand) (src dst e : TypeId) (hop : o.op = Op.convert src dst x) (l : List UInt8) (hx : a.eval x = S l)
 (hs : P.underlying src = some .string) (hd : P.underlying dst = some (.slice e)) (he : P.underlying e = some (.int .u8))
 (hK : ∀ w' cap, Row w' w.heap.size e (cells l) → Pu w w' → l.length ≤ cap → wpList P ops Q rest (a.put o.dst (.slice (some ⟨w.heap.size, 0, none⟩) l.length cap)) w') :
 wpList P ops Q (o :: rest) a w := by
 refine wpList_plain hg fun K hK' => ?_
 have hrun := run_bytes_of_string (P := P) w src dst e (bs l) hs hd he
 unfold Oper.wp
 simp [execOp, hop, hx, hrun, Result.andThen]
 refine hK' _ _ (hK _ _ (Row.bytes w l _ e) ?_ ?_)
 · exact ((Below.refl _ _).drew).alloc (Nat.le_refl _) _
 · exact grownCap_ge _ _ _ _
theorem run_callFunc_body {P : Program} {f : FuncId} {fn : Func} (hf : P.funcs[f]? = some fn) (hn : (fn.name == "runtime.NumGoroutine") = false) (hb : fn.body.isNone = false) (args : Array Value) (w : World) :
 (callFunc f args).run P w = .ok (.enter f args) w := by
 have hb' : fn.body ≠ none := by intro h; rw [h] at hb; cases hb
 have hn' : fn.name ≠ "runtime.NumGoroutine" := by simpa using hn
 simp [callFunc, go_sem, hf, hn', hb']
end Go.Esc
set_option linter.unusedSimpArgs false
set_option linter.unusedVariables false
namespace Go.Proofs.YtoakccknimoogaaGreat
open Go.RowKit Go.Esc
theorem infoB : (Tryz.prog.info? 5).map (fun i => (i.zero, i.size, i.bytes)) = some (some (.int .u8 0), 1, 1) := by kernel_rfl
theorem putB_length (v n : Nat) : (putB v n).length = n := by induction n <;> simp [putB, *]
theorem set_big (v m k : Nat) (h : k < m) : (cells (List.replicate (m-k) 0 ++ putB v k)).set (m-1-k) (.int .u8 ((v / 2^(8*k) % 256 : Nat) : Int)) = cells (List.replicate (m-(k+1)) 0 ++ putB v (k+1)) := by
 obtain ⟨j, rfl⟩ : ∃ j, m = k + 1 + j := ⟨m - (k+1), by omega⟩
 have e1 : k + 1 + j - k = j + 1 := by omega
 have e2 : k + 1 + j - 1 - k = j := by omega
 have e3 : k + 1 + j - (k+1) = j := by omega
 rw [e1, e2, e3, List.replicate_succ']
 have : ((v / 2^(8*k) % 256 : Nat) : Int) = ((UInt8.ofNat (v / 256^k)).toNat : Int) := by
  rw [Nat.pow_mul]; simp
 rw [this, cells_set]
 simp [putB]
set_option maxHeartbeats 400000 in
theorem putBig (v : Int) (n : Int) (w : World) (hv : 0 ≤ v) (hn : 1 ≤ n) (hn8 : n ≤ 8) :
 Calls Tryz.prog 20 #[.int .u64 v, .int .i64 n] w fun e w' => e = .returned (S (putB v.toNat n.toNat)) ∧ Pu w w' := by
 obtain ⟨i0, hi, hz0, hz1, hz2⟩ := info_parts infoB
 obtain ⟨m, rfl⟩ := Int.eq_ofNat_of_zero_le (by omega : 0 ≤ n)
 obtain ⟨u, rfl⟩ := Int.eq_ofNat_of_zero_le (by omega : 0 ≤ v)
 have h1 : decide ((m:Int) < 1) = false := by simp; omega
 have h2 : decide ((8:Int) < m) = false := by simp; omega
 go_enter Tryz.func20, Tryz.ntmps20
 go_wp2_with (at_make; refine wpList_make_full _ rfl _ _ 51 rfl w.heap.size 5 i0 (.int .u8 0) 1 Tryz.underlying51 hi hz0 hz1 _ _ _ _ m rfl rfl rfl rfl (by rw [hz2]; omega) (by unfold maxLen; omega) (Nat.le_refl _) ?_; intro w1 hown hgrow)
 go_loopw [17] (fun i wr => ∃ k : Nat, k ≤ m ∧ i = .int .i64 k ∧ wr.ownsRow w.heap.size 5 1 (.slice (some ⟨w.heap.size, 0, none⟩) m m) m (cells (List.replicate (m-k) 0 ++ putB u k)) ∧ Below w.heap.size w wr) (fun i _ => m - (intOf i).toNat)
 case atStart => exact ⟨0, Nat.zero_le _, rfl, by rw [madeZ] at hown; simpa [putB] using hown, (Below.refl _ _).grown hgrow (Nat.le_refl _) (by simp)⟩
 case round =>
  obtain ⟨k, hk, rfl, hown, hbel⟩ := hrel
  by_cases hlt : k < m
  · have hl : (List.replicate (m-k) 0 ++ putB u k).length = m := by simp [putB_length]; omega
    have hc := hown.cellAt (m-1-k) (by omega)
    rw [cells_get _ _ (by omega)] at hc
    have hf := hown.frozenAt (m-1-k)
    have hst := hown.stored (m-1-k) (.int .u8 ((u / 2^(8*k) % 256 : Nat) : Int))
    rw [set_big u m k hlt] at hst
    go_wp2_with fail
    go_roundw
    case rel => exact ⟨k+1, by omega, by go_num, hst.1, hbel.grown hst.2 hbel.size (by simp)⟩
    case measure => simp [intOf]; omega
  · obtain rfl : k = m := by omega
    simp only [Nat.sub_self, List.replicate_zero, List.nil_append] at hown
    have hcv := own_conv (P := Tryz.prog) 51 9 hown Tryz.underlying51 Tryz.underlying5 Tryz.underlying9
    go_wp2_with fail
    go_ret
    exact ⟨rfl, hbel⟩
set_option maxHeartbeats 400000 in
theorem big (l : List UInt8) (w : World) (hl : l.length ≤ 8) :
 Calls Tryz.prog 31 #[S l] w fun e w' => e = .returned (.int .u64 (beN l)) ∧ Pu w w' := by
 by_cases h8 : l.length = 8
 · have ht : l.take 8 = l := List.take_of_length_le (by omega)
   go_enter Tryz.func31, Tryz.ntmps31
   go_wp2_with (refine wpList_bytes _ rfl (.tmp 11) 9 51 5 rfl l (by first | rfl | simp [Act.eval]) Tryz.underlying9 Tryz.underlying51 Tryz.underlying5 ?_; intro w1 cap hrow hpu hcap)
   go_loop [3, 14] (fun v i => ∃ k : Nat, k ≤ 8 ∧ i = .int .i64 k ∧ v = .int .u64 (beN (l.take k))) (fun _ i => 8 - (intOf i).toNat)
   case atStart => exact ⟨0, by omega, rfl, rfl⟩
   case round =>
    obtain ⟨k, hk, rfl, rfl⟩ := hrel
    by_cases hlt : k < 8
    · have hc := hrow.byte k (by omega)
      have hb : beN (l.take k) ≤ 72057594037927935 := beN_le (by simp; omega)
      have hu := l[k].toNat_lt
      go_wp2_with fail
      go_round
      case rel => exact ⟨k+1, by omega, by go_num, by rw [bits_or256 _ _ hb hu, beN_take_succ l k (by omega)]⟩
      case measure => simp [intOf]; omega
    · obtain rfl : k = 8 := by omega
      go_wp2_with fail
      go_ret
      exact ⟨by first | rfl | (rw [List.take_of_length_le (by omega)]; rfl), hpu⟩
 · have ht : l.take l.length = l := List.take_length
   go_enter Tryz.func31, Tryz.ntmps31
   go_wp2_with (refine wpList_bytes _ rfl (.tmp 11) 9 51 5 rfl l (by first | rfl | simp [Act.eval]) Tryz.underlying9 Tryz.underlying51 Tryz.underlying5 ?_; intro w1 cap hrow hpu hcap)
   go_loop [3, 14] (fun v i => ∃ k : Nat, k ≤ l.length ∧ i = .int .i64 k ∧ v = .int .u64 (beN (l.take k))) (fun _ i => l.length - (intOf i).toNat)
   case atStart => exact ⟨0, by omega, rfl, rfl⟩
   case round =>
    obtain ⟨k, hk, rfl, rfl⟩ := hrel
    by_cases hlt : k < l.length
    · have hc := hrow.byte k (by omega)
      have hb : beN (l.take k) ≤ 72057594037927935 := beN_le (by simp; omega)
      have hu := l[k].toNat_lt
      go_wp2_with fail
      go_round
      case rel => exact ⟨k+1, by omega, by go_num, by rw [bits_or256 _ _ hb hu, beN_take_succ l k (by omega)]⟩
      case measure => simp [intOf]; omega
    · obtain rfl : k = l.length := by omega
      go_wp2_with fail
      go_ret
      exact ⟨by first | rfl | (rw [List.take_of_length_le (Nat.le_refl _)]; rfl), hpu⟩
end Go.Proofs.YtoakccknimoogaaGreat
namespace Go.Esc
open Go Go.RowKit
theorem step_append_own {P : Program} {ops : Array Oper} {o : Oper} {a : Act} {w : World} {K : Act → World → Prop} {Q : Exit → Act → World → Prop} {E : Prop}
 (hg : o.guard = none) (s x : Operand) (t : TypeId) (hop : o.op = Op.call { callee := Callee.builtin Builtin.append, args := #[s, x], argTypes := #[t, t] })
 (base : Nat) (e : TypeId) (i : TypeInfo) (z : Value) (size bytes : Nat) (h1 : P.underlying t = some (.slice e)) (h2 : P.info? e = some i) (h3 : i.zero = some z) (h4 : i.size = size) (h5 : i.bytes = bytes) (h6 : z.cells.size = size) (h7 : 0 < size)
 (v : Value) (n : Nat) (xs : List Value) (hs : a.eval s = v) (hown : w.ownsRow base e size v n xs)
 (ad : Addr) (m c : Nat) (news : List Value) (hx : a.eval x = .slice (some ad) m c) (hn : news.length = m * size) (hc : ∀ j u, news[j]? = some u → w.cell? (ad.add j) = some u) (h1c : ∀ u ∈ news, u.oneCell' = true)
 (b1 : n + m ≤ maxLen) (b2 : (n + m) * bytes ≤ 140737488355328) (hbase : base ≤ w.heap.size)
 (hK : ∀ v' w', w'.ownsRow base e size v' (n + m) (xs ++ news) → w.grownBy w' v.ownBlock → K (a.put o.dst v') w') :
 if Region.wanted o (yielded ops a.tmps) = true then Oper.wp P o a w K Q else E := by
 have hw : Region.wanted o (yielded ops a.tmps) = true := by simp [Region.wanted, hg]
 rw [if_pos hw]
 exact wp_append_own w s x t hop base e i z size bytes h1 h2 h3 h4 h5 h6 h7 v n xs hs hown ad m c news hx hn hc h1c b1 b2 hbase fun v' w' a b _ => hK v' w' a b
/-- A value that owns an element shows what it is. -/
theorem own_form {w : World} {base e size : Nat} {v : Value} {n : Nat} {xs : List Value} (h : w.ownsRow base e size v n xs) (hn : 0 < n) : ∃ g cap, v = .slice (some ⟨g, 0, none⟩) n cap ∧ base ≤ g ∧ g < w.heap.size := by
 rcases h.2 with ⟨_, h0⟩ | ⟨g, cap, cur, hv, hb, hg, _⟩
 · omega
 · exact ⟨g, cap, hv, hb, (Array.getElem?_eq_some_iff.1 hg).1⟩
theorem own_slice {w : World} {base e size : Nat} {v : Value} {n : Nat} {xs : List Value} (h : w.ownsRow base e size v n xs) : ∃ (a : Option Addr) (cap : Nat), v = .slice a n cap ∧ (∀ k, v.ownBlock = some k → base ≤ k ∧ k < w.heap.size) := by
 refine (?_ : ∃ (a : Option Addr) (cap : Nat), v = .slice a n cap) |>.elim fun a h1 => h1.elim fun c h2 => ⟨a, c, h2, h.lt⟩
 rcases h.2 with ⟨h0, h1⟩ | ⟨g, cap, cur, hv, _⟩
 · exact ⟨none, 0, by rw [h0, h1]⟩
 · exact ⟨_, cap, hv⟩
theorem Row.grown {w w' : World} {g : Nat} {e : TypeId} {xs : List Value} (h : Row w g e xs) {row : Option Nat} (hg : w.grownBy w' row) (hne : some g ≠ row) : Row w' g e xs := h.other (hg.block g h.lt hne)
theorem grown_row {w w' : World} {row : Option Nat} (hg : w.grownBy w' row) {g : Nat} {e : TypeId} {xs : List Value} (h : Row w g e xs) (hne : some g ≠ row) : Row w' g e xs := h.grown hg hne
end Go.Esc
