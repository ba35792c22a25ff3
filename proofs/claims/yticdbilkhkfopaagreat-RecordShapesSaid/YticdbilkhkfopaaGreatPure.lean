/- What the document computes, in plain Lean. -/
namespace Go.Esc
abbrev Wd := BitVec 32
abbrev Bs := List UInt8

def rotl (x : Wd) (k : Nat) : Wd := x <<< k ||| x >>> (32 - k)
def rotr (x : Wd) (k : Nat) : Wd := rotl x ((32 - k % 32) % 32)

/-- the number of bytes, the highest first -/
def beN (l : Bs) : Nat := l.foldl (fun v c => v * 256 + c.toNat) 0
/-- the number of bytes, the lowest first -/
def leN : Bs → Nat
  | [] => 0
  | c :: l => c.toNat + 256 * leN l
/-- n bytes of v, the highest first -/
def putB (v : Nat) : Nat → Bs
  | 0 => []
  | n+1 => UInt8.ofNat (v / 256 ^ n) :: putB v n
/-- n bytes of v, the lowest first -/
def putL (v : Nat) : Nat → Bs
  | 0 => []
  | n+1 => UInt8.ofNat v :: putL (v / 256) n

def kTab : List Wd := [
 0x428a2f98, 0x71374491, 0xb5c0fbcf, 0xe9b5dba5, 0x3956c25b, 0x59f111f1, 0x923f82a4, 0xab1c5ed5,
 0xd807aa98, 0x12835b01, 0x243185be, 0x550c7dc3, 0x72be5d74, 0x80deb1fe, 0x9bdc06a7, 0xc19bf174,
 0xe49b69c1, 0xefbe4786, 0x0fc19dc6, 0x240ca1cc, 0x2de92c6f, 0x4a7484aa, 0x5cb0a9dc, 0x76f988da,
 0x983e5152, 0xa831c66d, 0xb00327c8, 0xbf597fc7, 0xc6e00bf3, 0xd5a79147, 0x06ca6351, 0x14292967,
 0x27b70a85, 0x2e1b2138, 0x4d2c6dfc, 0x53380d13, 0x650a7354, 0x766a0abb, 0x81c2c92e, 0x92722c85,
 0xa2bfe8a1, 0xa81a664b, 0xc24b8b70, 0xc76c51a3, 0xd192e819, 0xd6990624, 0xf40e3585, 0x106aa070,
 0x19a4c116, 0x1e376c08, 0x2748774c, 0x34b0bcb5, 0x391c0cb3, 0x4ed8aa4a, 0x5b9cca4f, 0x682e6ff3,
 0x748f82ee, 0x78a5636f, 0x84c87814, 0x8cc70208, 0x90befffa, 0xa4506ceb, 0xbef9a3f7, 0xc67178f2]
def hTab : List Wd := [0x6a09e667, 0xbb67ae85, 0x3c6ef372, 0xa54ff53a, 0x510e527f, 0x9b05688c, 0x1f83d9ab, 0x5be0cd19]

def word (l : Bs) (i : Nat) : Wd := BitVec.ofNat 32 (beN ((l.drop (4*i)).take 4))

/-- the next word of a schedule, of the words so far -/
def nextW (w : List Wd) (t : Nat) : Wd :=
  let x := w.getD (t-15) 0
  let y := w.getD (t-2) 0
  w.getD (t-16) 0 + (rotr x 7 ^^^ rotr x 18 ^^^ x >>> 3) + w.getD (t-7) 0 + (rotr y 17 ^^^ rotr y 19 ^^^ y >>> 10)
def sched (b : Bs) : Nat → List Wd
  | 0 => []
  | t+1 => let w := sched b t; w ++ [if t < 16 then word b t else nextW w t]

structure St where
  a : Wd
  b : Wd
  c : Wd
  d : Wd
  e : Wd
  f : Wd
  g : Wd
  h : Wd
def St.l (s : St) : List Wd := [s.a, s.b, s.c, s.d, s.e, s.f, s.g, s.h]
def St.of (l : List Wd) : St := ⟨l.getD 0 0, l.getD 1 0, l.getD 2 0, l.getD 3 0, l.getD 4 0, l.getD 5 0, l.getD 6 0, l.getD 7 0⟩
def step (s : St) (k w : Wd) : St :=
  let t1 := s.h + (rotr s.e 6 ^^^ rotr s.e 11 ^^^ rotr s.e 25) + (s.e &&& s.f ^^^ ~~~s.e &&& s.g) + k + w
  let t2 := (rotr s.a 2 ^^^ rotr s.a 13 ^^^ rotr s.a 22) + (s.a &&& s.b ^^^ s.a &&& s.c ^^^ s.b &&& s.c)
  ⟨t1 + t2, s.a, s.b, s.c, s.d + t1, s.e, s.f, s.g⟩
def St.add (s t : St) : St := ⟨s.a + t.a, s.b + t.b, s.c + t.c, s.d + t.d, s.e + t.e, s.f + t.f, s.g + t.g, s.h + t.h⟩
def rounds (w : List Wd) (s : St) (n : Nat) : St := (List.range n).foldl (fun s i => step s (kTab.getD i 0) (w.getD i 0)) s
def comp (s : St) (b : Bs) : St := (rounds (sched b 64) s 64).add s
def initS : St := St.of hTab

/-- whole blocks of l, fuel n -/
def blocks (s : St) (l : Bs) : Nat → St
  | 0 => s
  | n+1 => blocks (comp s (l.take 64)) (l.drop 64) n
def shaPad (n : Nat) : Bs := 0x80 :: List.replicate ((119 - n % 64) % 64) 0 ++ putB (n * 8 % 2^64) 8
def sha (l : Bs) : Bs := let m := l ++ shaPad l.length; (blocks initS m (m.length / 64)).l.flatMap (fun w => putB w.toNat 4)

def hexD : Bs := [48,49,50,51,52,53,54,55,56,57,97,98,99,100,101,102]
def hex (l : Bs) : Bs := l.flatMap fun c => [hexD.getD (c.toNat / 16) 0, hexD.getD (c.toNat % 16) 0]
def str (s : String) : Bs := s.toUTF8.data.toList
set_option maxRecDepth 100000 in
theorem t1 : hex (sha [97,98,99]) = [98,97,55,56,49,54,98,102,56,102,48,49,99,102,101,97,52,49,52,49,52,48,100,101,53,100,97,101,50,50,50,51,98,48,48,51,54,49,97,51,57,54,49,55,55,97,57,99,98,52,49,48,102,102,54,49,102,50,48,48,49,53,97,100] := by decide +kernel
theorem beN_take_succ (l : List UInt8) (k : Nat) (h : k < l.length) : beN (l.take (k+1)) = beN (l.take k) * 256 + l[k].toNat := by
  rw [List.take_succ_eq_append_getElem h, beN, List.foldl_append]; rfl
theorem beN_lt (l : List UInt8) : beN l < 256 ^ l.length := by
  suffices h : ∀ (l : List UInt8) (v : Nat), l.foldl (fun v c => v * 256 + c.toNat) v < (v+1) * 256 ^ l.length by simpa [beN] using h l 0
  intro l
  induction l with
  | nil => intro v; simp
  | cons c l ih =>
    intro v
    simp only [List.foldl_cons, List.length_cons]
    refine Nat.lt_of_lt_of_le (ih _) ?_
    have := c.toNat_lt
    rw [Nat.pow_succ', ← Nat.mul_assoc]
    exact Nat.mul_le_mul_right _ (by omega)
theorem beN_le {l : List UInt8} (h : l.length ≤ 7) : beN l ≤ 72057594037927935 := by
  have := beN_lt l
  have h2 : 256 ^ l.length ≤ 256 ^ 7 := Nat.pow_le_pow_right (by decide) h
  have : beN l < 256 ^ 7 := Nat.lt_of_lt_of_le this h2
  omega
end Go.Esc
