/- Worlds that differ in new blocks and in those of a set. Four words mixed: package stream's and the document's. Numbers in bytes, the lowest first: package octet's and the document's. -/
import Derived.Test.YtfbnaemnblannaaGreatT8
set_option linter.unusedSimpArgs false
set_option linter.unusedVariables false
namespace Go.Proofs.YtfbnaemnblannaaGreat
open Go.RowKit Go.Esc
/-- w' is w but for new blocks and those of G. -/
structure Cg (G : Nat → Prop) (w w' : World) : Prop where
  os : w'.os = w.os
  tape : w'.tape = w.tape
  output : w'.output = w.output
  size : w.heap.size ≤ w'.heap.size
  block : ∀ k, k < w.heap.size → ¬ G k → w'.heap[k]? = w.heap[k]?
theorem Cg.refl (G : Nat → Prop) (w : World) : Cg G w w := ⟨rfl, rfl, rfl, Nat.le_refl _, fun _ _ _ => rfl⟩
theorem Cg.pu {G : Nat → Prop} {a b c : World} (h : Cg G a b) (hp : Pu b c) : Cg G a c := ⟨hp.os.trans h.os, hp.tape.trans h.tape, hp.output.trans h.output, Nat.le_trans h.size hp.size, fun i hi hg => (hp.block i (Nat.lt_of_lt_of_le hi h.size)).trans (h.block i hi hg)⟩
theorem Cg.grown {G : Nat → Prop} {a b c : World} {g : Nat} (h : Cg G a b) (hp : b.grownBy c (some g)) (hg : G g) : Cg G a c := ⟨hp.os.trans h.os, hp.tape.trans h.tape, hp.output.trans h.output, Nat.le_trans h.size hp.size, fun i hi hn => (hp.block i (Nat.lt_of_lt_of_le hi h.size) (fun e => hn (by cases e; exact hg))).trans (h.block i hi hn)⟩
theorem Cg.cell {G : Nat → Prop} {a b : World} (h : Cg G a b) {g j : Nat} (hg : g < a.heap.size) (hn : ¬ G g) : b.cell? ⟨g, j, none⟩ = a.cell? ⟨g, j, none⟩ := by
  have := h.block g hg hn
  simp only [World.cell?, this]
theorem Cg.grown' {G : Nat → Prop} {a b c : World} {row : Option Nat} (h : Cg G a b) (hp : b.grownBy c row) (hg : ∀ q, row = some q → G q ∨ a.heap.size ≤ q) : Cg G a c :=
  ⟨hp.os.trans h.os, hp.tape.trans h.tape, hp.output.trans h.output, Nat.le_trans h.size hp.size, fun j hj hn => (hp.block j (Nat.lt_of_lt_of_le hj h.size) (fun e => by
    rcases hg j e.symm with h1 | h1
    · exact hn h1
    · omega)).trans (h.block j hj hn)⟩
theorem Cg.row {G : Nat → Prop} {w w' : World} (h : Cg G w w') {k : Nat} {e : TypeId} {xs : List Value} (hr : Row w k e xs) (hk : ¬ G k) : Row w' k e xs := hr.other (h.block k hr.lt hk)
theorem Cg.below {G : Nat → Prop} {B : Nat} {a w w' : World} (h : Below B a w) (k : Cg G w w') (hg : ∀ g, G g → B ≤ g) (hB : B ≤ w.heap.size) : Below B a w' :=
  h.trans ⟨k.os, k.tape, k.output, k.size, fun i hi => k.block i (by omega) (fun hG => by have := hg i hG; omega)⟩
theorem Cg.trans {G : Nat → Prop} {a b c : World} (h : Cg G a b) (k : Cg G b c) : Cg G a c :=
  ⟨k.os.trans h.os, k.tape.trans h.tape, k.output.trans h.output, Nat.le_trans h.size k.size, fun i hi hg => (k.block i (Nat.lt_of_lt_of_le hi h.size) hg).trans (h.block i hi hg)⟩
/-- The second step may change blocks that are new since the first. -/
theorem Cg.andThen {G H : Nat → Prop} {a b c : World} (h : Cg G a b) (k : Cg H b c) (hH : ∀ g, H g → G g ∨ a.heap.size ≤ g) : Cg G a c :=
  ⟨k.os.trans h.os, k.tape.trans h.tape, k.output.trans h.output, Nat.le_trans h.size k.size, fun i hi hg => (k.block i (Nat.lt_of_lt_of_le hi h.size) (fun hk => by
    rcases hH i hk with h1 | h1
    · exact hg h1
    · omega)).trans (h.block i hi hg)⟩
theorem Cg.mono {G H : Nat → Prop} {a b : World} (h : Cg G a b) (hG : ∀ g, G g → H g) : Cg H a b := ⟨h.os, h.tape, h.output, h.size, fun i hi hn => h.block i hi fun hg => hn (hG i hg)⟩
theorem Cg.ofPu {G : Nat → Prop} {a b : World} (h : Pu a b) : Cg G a b := ⟨h.os, h.tape, h.output, h.size, fun i hi _ => h.block i hi⟩
theorem Cg.ofBut {G : Nat → Prop} {a b : World} {g : Nat} (h : But g a b) (hg : G g) : Cg G a b := ⟨h.os, h.tape, h.output, h.size, fun i hi hn => h.block i hi (fun e => hn (e ▸ hg))⟩
theorem Cg.toPu {G : Nat → Prop} {a b : World} (h : Cg G a b) (hG : ∀ g, G g → a.heap.size ≤ g) : Pu a b := ⟨h.os, h.tape, h.output, h.size, fun i hi => h.block i hi (fun hg => by have := hG i hg; omega)⟩
end Go.Proofs.YtfbnaemnblannaaGreat
set_option linter.unusedSimpArgs false
set_option linter.unusedVariables false
namespace Go.Proofs.YtfbnaemnblannaaGreat
open Go.RowKit Go.Esc
def qv (q : Q4) : Value := .tuple #[V q.a, V q.b, V q.c, V q.d]
theorem leftK (x : BitVec 32) (n : Nat) (h : n < 32) (w : World) :
    Calls Tryz.prog 111 #[V x, .int .i64 (n : Int)] w fun e w' => e = .returned (V (rotl x n)) ∧ w' = w := by
  have e : ((n : Int) % 32).toNat = n := by omega
  have hl := left x (n : Int) (by omega) (by omega) w
  rw [e] at hl; exact hl
set_option maxRecDepth 100000 in
set_option maxHeartbeats 800000 in
theorem quart (a b c d : BitVec 32) (w : World) :
    Calls Tryz.prog 87 #[V a, V b, V c, V d] w fun e w' => e = .returned (qv (quarter a b c d)) ∧ w' = w := by
  have h16 : ∀ (x : BitVec 32) (w : World), Calls Tryz.prog 111 #[V x, .int .i64 16] w fun e w' => e = .returned (V (rotl x 16)) ∧ w' = w := fun x w => leftK x 16 (by decide) w
  have h12 : ∀ (x : BitVec 32) (w : World), Calls Tryz.prog 111 #[V x, .int .i64 12] w fun e w' => e = .returned (V (rotl x 12)) ∧ w' = w := fun x w => leftK x 12 (by decide) w
  have h8 : ∀ (x : BitVec 32) (w : World), Calls Tryz.prog 111 #[V x, .int .i64 8] w fun e w' => e = .returned (V (rotl x 8)) ∧ w' = w := fun x w => leftK x 8 (by decide) w
  have h7 : ∀ (x : BitVec 32) (w : World), Calls Tryz.prog 111 #[V x, .int .i64 7] w fun e w' => e = .returned (V (rotl x 7)) ∧ w' = w := fun x w => leftK x 7 (by decide) w
  have H16 := Lib.hid h16
  have H12 := Lib.hid h12
  have H8 := Lib.hid h8
  have H7 := Lib.hid h7
  clear h16 h12 h8 h7
  go_enter Tryz.func87, Tryz.ntmps87
  go_wp2_with (go_at_call 111; first
    | (with_reducible refine (H16.out _ _).mono ?_
       rintro e w1 ⟨rfl, rfl⟩)
    | (with_reducible refine (H12.out _ _).mono ?_
       rintro e w1 ⟨rfl, rfl⟩)
    | (with_reducible refine (H8.out _ _).mono ?_
       rintro e w1 ⟨rfl, rfl⟩)
    | (with_reducible refine (H7.out _ _).mono ?_
       rintro e w1 ⟨rfl, rfl⟩))
  refine bodyPost_ret (v := qv (quarter a b c d)) (by simp [results, Tryz.results87, go_sem]; rfl) rfl ⟨rfl, rfl⟩
theorem refLeftK (x : BitVec 32) (n : Nat) (h : n < 32) (w : World) :
    Calls Tryz.prog 117 #[V x, .int .i64 (n : Int)] w fun e w' => e = .returned (V (rotl x n)) ∧ w' = w := by
  have e : ((n : Int) % 32).toNat = n := by omega
  have hl := refLeft x (n : Int) (by omega) (by omega) w
  rw [e] at hl; exact hl
set_option maxRecDepth 100000 in
set_option maxHeartbeats 800000 in
theorem refQuart (a b c d : BitVec 32) (w : World) :
    Calls Tryz.prog 101 #[V a, V b, V c, V d] w fun e w' => e = .returned (qv (quarter a b c d)) ∧ w' = w := by
  have h16 : ∀ (x : BitVec 32) (w : World), Calls Tryz.prog 117 #[V x, .int .i64 16] w fun e w' => e = .returned (V (rotl x 16)) ∧ w' = w := fun x w => refLeftK x 16 (by decide) w
  have h12 : ∀ (x : BitVec 32) (w : World), Calls Tryz.prog 117 #[V x, .int .i64 12] w fun e w' => e = .returned (V (rotl x 12)) ∧ w' = w := fun x w => refLeftK x 12 (by decide) w
  have h8 : ∀ (x : BitVec 32) (w : World), Calls Tryz.prog 117 #[V x, .int .i64 8] w fun e w' => e = .returned (V (rotl x 8)) ∧ w' = w := fun x w => refLeftK x 8 (by decide) w
  have h7 : ∀ (x : BitVec 32) (w : World), Calls Tryz.prog 117 #[V x, .int .i64 7] w fun e w' => e = .returned (V (rotl x 7)) ∧ w' = w := fun x w => refLeftK x 7 (by decide) w
  have H16 := Lib.hid h16
  have H12 := Lib.hid h12
  have H8 := Lib.hid h8
  have H7 := Lib.hid h7
  clear h16 h12 h8 h7
  go_enter Tryz.func101, Tryz.ntmps101
  go_wp2_with (go_at_call 117; first
    | (with_reducible refine (H16.out _ _).mono ?_
       rintro e w1 ⟨rfl, rfl⟩)
    | (with_reducible refine (H12.out _ _).mono ?_
       rintro e w1 ⟨rfl, rfl⟩)
    | (with_reducible refine (H8.out _ _).mono ?_
       rintro e w1 ⟨rfl, rfl⟩)
    | (with_reducible refine (H7.out _ _).mono ?_
       rintro e w1 ⟨rfl, rfl⟩))
  refine bodyPost_ret (v := qv (quarter a b c d)) (by simp [results, Tryz.results101, go_sem]; rfl) rfl ⟨rfl, rfl⟩
end Go.Proofs.YtfbnaemnblannaaGreat
set_option linter.unusedSimpArgs false
set_option linter.unusedVariables false
namespace Go.Esc
open Go Go.RowKit
theorem putL_last (v k : Nat) : putL v (k+1) = putL v k ++ [UInt8.ofNat (v / 256 ^ k)] := by
  rw [putL_append v k 1]; rfl
theorem set_little (v m k : Nat) (h : k < m) : (cells (putL v k ++ List.replicate (m-k) 0)).set k (.int .u8 ((v / 2^(8*k) % 256 : Nat) : Int)) = cells (putL v (k+1) ++ List.replicate (m-(k+1)) 0) := by
  obtain ⟨j, hj⟩ : ∃ j, m - k = j + 1 := ⟨m - (k+1), by omega⟩
  have : ((v / 2^(8*k) % 256 : Nat) : Int) = ((UInt8.ofNat (v / 256^k)).toNat : Int) := by
    rw [Nat.pow_mul]; simp
  rw [this, cells_set, hj, show m - (k + 1) = j by omega, List.replicate_succ, List.set_append]
  simp [putL_length, putL_last]
theorem leN_drop (l : Bs) (k : Nat) (h : k < l.length) : leN (l.drop k) = l[k].toNat + 256 * leN (l.drop (k+1)) := by
  rw [List.drop_eq_getElem_cons h]; rfl
theorem leN_drop_le (l : Bs) (k : Nat) (h : l.length ≤ 8) (hk : 0 < k) : leN (l.drop k) ≤ 72057594037927935 := by
  have h1 := leN_lt (l.drop k)
  have h2 : 256 ^ (l.drop k).length ≤ 256 ^ 7 := Nat.pow_le_pow_right (by decide) (by simp; omega)
  have h3 : (256 : Nat) ^ 7 = 72057594037927936 := by decide
  omega
end Go.Esc
namespace Go.Proofs.YtfbnaemnblannaaGreat
open Go.RowKit Go.Esc
set_option maxHeartbeats 400000 in
theorem putLittle (v : Int) (n : Int) (w : World) (hv : 0 ≤ v) (hn : 1 ≤ n) (hn8 : n ≤ 8) :
    Calls Tryz.prog 62 #[.int .u64 v, .int .i64 n] w fun e w' => e = .returned (S (putL v.toNat n.toNat)) ∧ Pu w w' := by
  obtain ⟨i0, hi, hz0, hz1, hz2⟩ := info_parts infoB
  obtain ⟨m, rfl⟩ := Int.eq_ofNat_of_zero_le (by omega : 0 ≤ n)
  obtain ⟨u, rfl⟩ := Int.eq_ofNat_of_zero_le (by omega : 0 ≤ v)
  have h1 : decide ((m:Int) < 1) = false := by simp; omega
  have h2 : decide ((8:Int) < m) = false := by simp; omega
  go_enter Tryz.func62, Tryz.ntmps62
  go_wp2_with (at_make; refine wpList_make_full _ rfl _ _ 31 rfl w.heap.size 5 i0 (.int .u8 0) 1 Tryz.underlying31 hi hz0 hz1 _ _ _ _ m rfl rfl rfl rfl (by rw [hz2]; omega) (by unfold maxLen; omega) (Nat.le_refl _) ?_; intro w1 hown hgrow)
  go_loopw [17] (fun i wr => ∃ k : Nat, k ≤ m ∧ i = .int .i64 k ∧ wr.ownsRow w.heap.size 5 1 (.slice (some ⟨w.heap.size, 0, none⟩) m m) m (cells (putL u k ++ List.replicate (m-k) 0)) ∧ Below w.heap.size w wr) (fun i _ => m - (intOf i).toNat)
  case atStart => exact ⟨0, Nat.zero_le _, rfl, by rw [madeZ] at hown; simpa [putL] using hown, (Below.refl _ _).grown hgrow (Nat.le_refl _) (by simp)⟩
  case round =>
    obtain ⟨k, hk, rfl, hown, hbel⟩ := hrel
    by_cases hlt : k < m
    · have hl : (putL u k ++ List.replicate (m-k) 0).length = m := by simp [putL_length]; omega
      have hc := hown.cellAt k (by omega)
      rw [cells_get _ _ (by omega)] at hc
      have hf := hown.frozenAt k
      have hst := hown.stored k (.int .u8 ((u / 2^(8*k) % 256 : Nat) : Int))
      rw [set_little u m k hlt] at hst
      go_wp2_with fail
      go_roundw
      case rel => exact ⟨k+1, by omega, by go_num, hst.1, hbel.grown hst.2 hbel.size (by simp)⟩
      case measure => simp [intOf]; omega
    · obtain rfl : k = m := by omega
      simp only [Nat.sub_self, List.replicate_zero, List.append_nil] at hown
      have hcv := own_conv (P := Tryz.prog) 31 9 hown Tryz.underlying31 Tryz.underlying5 Tryz.underlying9
      go_wp2_with fail
      go_ret
      exact ⟨rfl, hbel⟩
set_option maxHeartbeats 800000 in
theorem refPutLittle (v : Int) (n : Int) (w : World) (hv : 0 ≤ v) (hv2 : v < 18446744073709551616) (hn : 1 ≤ n) (hn8 : n ≤ 8) :
    Calls Tryz.prog 72 #[.int .u64 v, .int .i64 n] w fun e w' => e = .returned (S (putL v.toNat n.toNat)) ∧ Pu w w' := by
  obtain ⟨i0, hi, hz0, hz1, hz2⟩ := info_parts infoB
  obtain ⟨m, rfl⟩ := Int.eq_ofNat_of_zero_le (by omega : 0 ≤ n)
  obtain ⟨u, rfl⟩ := Int.eq_ofNat_of_zero_le (by omega : 0 ≤ v)
  have h1 : decide ((m:Int) < 1) = false := by simp; omega
  have h2 : decide ((8:Int) < m) = false := by simp; omega
  go_enter Tryz.func72, Tryz.ntmps72
  go_wp2_with (at_make; refine wpList_make_full _ rfl _ _ 31 rfl w.heap.size 5 i0 (.int .u8 0) 1 Tryz.underlying31 hi hz0 hz1 _ _ _ _ m rfl rfl rfl rfl (by rw [hz2]; omega) (by unfold maxLen; omega) (Nat.le_refl _) ?_; intro w1 hown hgrow)
  go_loopw [0, 6] (fun x i wr => ∃ k : Nat, k ≤ m ∧ x = .int .u64 ((u / 256 ^ k : Nat) : Int) ∧ i = .int .i64 k ∧ wr.ownsRow w.heap.size 5 1 (.slice (some ⟨w.heap.size, 0, none⟩) m m) m (cells (putL u k ++ List.replicate (m-k) 0)) ∧ Below w.heap.size w wr) (fun _ i _ => m - (intOf i).toNat)
  case atStart => exact ⟨0, Nat.zero_le _, by simp, rfl, by rw [madeZ] at hown; simpa [putL] using hown, (Below.refl _ _).grown hgrow (Nat.le_refl _) (by simp)⟩
  case round =>
    obtain ⟨k, hk, rfl, rfl, hown, hbel⟩ := hrel
    by_cases hlt : k < m
    · have hl : (putL u k ++ List.replicate (m-k) 0).length = m := by simp [putL_length]; omega
      have hse := set_little u m k hlt
      have hc := hown.cellAt k (by rw [Nat.mul_one]; exact hlt)
      rw [cells_get _ _ (by omega)] at hc
      have hf := hown.frozenAt k
      have hst := hown.stored k (.int .u8 ((u / 2^(8*k) % 256 : Nat) : Int))
      rw [hse] at hst
      clear hse
      obtain ⟨y, hy⟩ : ∃ y, y = u / 256 ^ k := ⟨_, rfl⟩
      have hyl : y < 18446744073709551616 := by rw [hy]; exact Nat.lt_of_le_of_lt (Nat.div_le_self _ _) (by omega)
      have hp : u / 2 ^ (8*k) = y := by rw [hy, Nat.pow_mul]
      have hn : u / 256 ^ (k+1) = y / 256 := by rw [hy, Nat.pow_succ, Nat.div_div_eq_div_mul]
      rw [hp] at hst
      rw [← hy]
      have ha := and255 y hyl
      have hw : IntKind.u8.wrap ((y % 256 : Nat) : Int) = ((y % 256 : Nat) : Int) := by rw [IntKind.wrap_u8]; omega
      have hq : ((y : Int)).tdiv 256 = ((y / 256 : Nat) : Int) := by rw [Int.tdiv_eq_ediv_of_nonneg (by omega)]; omega
      have hk0 : (0 : Int) ≤ k := by omega
      have hkm : (k : Int) < m := by omega
      obtain ⟨r, hr⟩ : ∃ r, r = y % 256 := ⟨_, rfl⟩
      obtain ⟨q, hq2⟩ : ∃ q, q = y / 256 := ⟨_, rfl⟩
      rw [← hr] at ha hw hst
      rw [← hq2] at hq hn
      have hr256 : r < 256 := by omega
      have hql : IntKind.u64.wrap (q : Int) = q := by rw [IntKind.wrap_u64]; omega
      have HN := Lib.hid hn
      clear hy hp hn hr hq2 hv2 hyl
      go_wp2_with fail
      go_roundw
      case rel => exact ⟨k+1, by omega, by rw [HN.out], by go_num, hst.1, hbel.grown hst.2 hbel.size (by simp)⟩
      case measure => simp [intOf]; omega
    · obtain rfl : k = m := by omega
      simp only [Nat.sub_self, List.replicate_zero, List.append_nil] at hown
      have hcv := own_conv (P := Tryz.prog) 31 9 hown Tryz.underlying31 Tryz.underlying5 Tryz.underlying9
      obtain ⟨y, hy⟩ : ∃ y, y = u / 256 ^ k := ⟨_, rfl⟩
      rw [← hy]
      clear hy
      go_wp2_with fail
      go_ret
      exact ⟨rfl, hbel⟩
set_option maxHeartbeats 800000 in
theorem little (l : List UInt8) (w : World) (hl : l.length ≤ 8) :
    Calls Tryz.prog 85 #[S l] w fun e w' => e = .returned (.int .u64 (leN l : Nat)) ∧ w' = w := by
  by_cases h8 : l.length = 8
  · have hz : IntKind.i64.wrap ((8 : Int) - 1) = 7 := rfl
    go_enter Tryz.func85, Tryz.ntmps85
    go_wp2_with fail
    go_loop [3, 4] (fun v i => (∃ p : Nat, p < l.length ∧ i = .int .i64 (p : Int) ∧ v = .int .u64 (leN (l.drop (p+1)) : Nat)) ∨ (i = .int .i64 (-1) ∧ v = .int .u64 (leN l : Nat))) (fun _ i => (intOf i + 1).toNat)
    case atStart =>
      rcases (by omega : l.length = 0 ∨ 0 < l.length) with h0 | h0
      · right
        obtain rfl : l = [] := List.eq_nil_of_length_eq_zero h0
        first | exact ⟨rfl, rfl⟩ | (exfalso; simp at h8)
      · left
        refine ⟨l.length - 1, by omega, ?_, ?_⟩
        · first | go_num | exact congrArg (Value.int .i64) (by omega)
        · rw [show l.length - 1 + 1 = l.length by omega, List.drop_length]; rfl
    case round =>
      rcases hrel with ⟨p, hp, rfl, rfl⟩ | ⟨rfl, rfl⟩
      · have hs := leN_drop l p hp
        have hb := leN_drop_le l (p+1) hl (by omega)
        obtain ⟨x, hx⟩ : ∃ x, x = leN (l.drop (p+1)) := ⟨_, rfl⟩
        obtain ⟨c, hc⟩ : ∃ c, l[p] = c := ⟨_, rfl⟩
        have hu := c.toNat_lt
        rw [← hx] at hb hs
        rw [hc] at hs
        rw [← hx]
        have q1 : IntKind.u64.wrap ((x : Int) * 256) = x * 256 := by rw [IntKind.wrap_u64]; omega
        have q2 : IntKind.u64.wrap ((x : Int) * 256 + c.toNat) = x * 256 + c.toNat := by rw [IntKind.wrap_u64]; omega
        have q3 : IntKind.u64.wrap (c.toNat : Int) = c.toNat := by rw [IntKind.wrap_u64]; omega
        have q4 : Go.bits .or .u64 ((x : Int) * 256) (c.toNat : Int) = ((x * 256 + c.toNat : Nat) : Int) := bits_or256 _ _ hb hu
        have q5 : (0 : Int) ≤ p := by omega
        have q6 : (p : Int) < l.length := by omega
        have q7 : IntKind.i64.wrap ((p : Int) - 1) = p - 1 := by rw [IntKind.wrap_i64]; omega
        have HS := Lib.hid hs
        clear hx hs
        go_wp2_with fail
        go_round
        case rel =>
          have hs := HS.out
          rcases p with _ | p
          · right
            refine ⟨rfl, ?_⟩
            rw [List.drop_zero] at hs
            rw [hs]; first | rfl | exact congrArg (Value.int .u64) (by omega)
          · left
            refine ⟨p, by omega, ?_, ?_⟩
            · exact congrArg (Value.int .i64) (by omega)
            · rw [hs]; exact congrArg (Value.int .u64) (by omega)
        case measure => first | (simp [intOf]; done) | (simp [intOf]; omega)
      · go_wp2_with fail
        go_ret
        exact ⟨rfl, rfl⟩
  · have h9 : (l.length : Int) < 8 := by omega
    have hz : IntKind.i64.wrap ((l.length : Int) - 1) = l.length - 1 := by rw [IntKind.wrap_i64]; omega
    go_enter Tryz.func85, Tryz.ntmps85
    go_wp2_with fail
    go_loop [3, 4] (fun v i => (∃ p : Nat, p < l.length ∧ i = .int .i64 (p : Int) ∧ v = .int .u64 (leN (l.drop (p+1)) : Nat)) ∨ (i = .int .i64 (-1) ∧ v = .int .u64 (leN l : Nat))) (fun _ i => (intOf i + 1).toNat)
    case atStart =>
      rcases (by omega : l.length = 0 ∨ 0 < l.length) with h0 | h0
      · right
        obtain rfl : l = [] := List.eq_nil_of_length_eq_zero h0
        first | exact ⟨rfl, rfl⟩ | (exfalso; simp at h8)
      · left
        refine ⟨l.length - 1, by omega, ?_, ?_⟩
        · first | go_num | exact congrArg (Value.int .i64) (by omega)
        · rw [show l.length - 1 + 1 = l.length by omega, List.drop_length]; rfl
    case round =>
      rcases hrel with ⟨p, hp, rfl, rfl⟩ | ⟨rfl, rfl⟩
      · have hs := leN_drop l p hp
        have hb := leN_drop_le l (p+1) hl (by omega)
        obtain ⟨x, hx⟩ : ∃ x, x = leN (l.drop (p+1)) := ⟨_, rfl⟩
        obtain ⟨c, hc⟩ : ∃ c, l[p] = c := ⟨_, rfl⟩
        have hu := c.toNat_lt
        rw [← hx] at hb hs
        rw [hc] at hs
        rw [← hx]
        have q1 : IntKind.u64.wrap ((x : Int) * 256) = x * 256 := by rw [IntKind.wrap_u64]; omega
        have q2 : IntKind.u64.wrap ((x : Int) * 256 + c.toNat) = x * 256 + c.toNat := by rw [IntKind.wrap_u64]; omega
        have q3 : IntKind.u64.wrap (c.toNat : Int) = c.toNat := by rw [IntKind.wrap_u64]; omega
        have q4 : Go.bits .or .u64 ((x : Int) * 256) (c.toNat : Int) = ((x * 256 + c.toNat : Nat) : Int) := bits_or256 _ _ hb hu
        have q5 : (0 : Int) ≤ p := by omega
        have q6 : (p : Int) < l.length := by omega
        have q7 : IntKind.i64.wrap ((p : Int) - 1) = p - 1 := by rw [IntKind.wrap_i64]; omega
        have HS := Lib.hid hs
        clear hx hs
        go_wp2_with fail
        go_round
        case rel =>
          have hs := HS.out
          rcases p with _ | p
          · right
            refine ⟨rfl, ?_⟩
            rw [List.drop_zero] at hs
            rw [hs]; first | rfl | exact congrArg (Value.int .u64) (by omega)
          · left
            refine ⟨p, by omega, ?_, ?_⟩
            · exact congrArg (Value.int .i64) (by omega)
            · rw [hs]; exact congrArg (Value.int .u64) (by omega)
        case measure => first | (simp [intOf]; done) | (simp [intOf]; omega)
      · go_wp2_with fail
        go_ret
        exact ⟨rfl, rfl⟩
set_option maxHeartbeats 800000 in
theorem refLittle (l : List UInt8) (w : World) (hl : l.length ≤ 8) :
    Calls Tryz.prog 100 #[S l] w fun e w' => e = .returned (.int .u64 (leN l : Nat)) ∧ w' = w := by
  by_cases h8 : l.length = 8
  · have hz : IntKind.i64.wrap ((8 : Int) - 1) = 7 := rfl
    go_enter Tryz.func100, Tryz.ntmps100
    go_wp2_with fail
    go_loop [3, 4] (fun v i => (∃ p : Nat, p < l.length ∧ i = .int .i64 (p : Int) ∧ v = .int .u64 (leN (l.drop (p+1)) : Nat)) ∨ (i = .int .i64 (-1) ∧ v = .int .u64 (leN l : Nat))) (fun _ i => (intOf i + 1).toNat)
    case atStart =>
      rcases (by omega : l.length = 0 ∨ 0 < l.length) with h0 | h0
      · right
        obtain rfl : l = [] := List.eq_nil_of_length_eq_zero h0
        first | exact ⟨rfl, rfl⟩ | (exfalso; simp at h8)
      · left
        refine ⟨l.length - 1, by omega, ?_, ?_⟩
        · first | go_num | exact congrArg (Value.int .i64) (by omega)
        · rw [show l.length - 1 + 1 = l.length by omega, List.drop_length]; rfl
    case round =>
      rcases hrel with ⟨p, hp, rfl, rfl⟩ | ⟨rfl, rfl⟩
      · have hs := leN_drop l p hp
        have hb := leN_drop_le l (p+1) hl (by omega)
        obtain ⟨x, hx⟩ : ∃ x, x = leN (l.drop (p+1)) := ⟨_, rfl⟩
        obtain ⟨c, hc⟩ : ∃ c, l[p] = c := ⟨_, rfl⟩
        have hu := c.toNat_lt
        rw [← hx] at hb hs
        rw [hc] at hs
        rw [← hx]
        have q1 : IntKind.u64.wrap ((x : Int) * 256) = x * 256 := by rw [IntKind.wrap_u64]; omega
        have q2 : IntKind.u64.wrap ((x : Int) * 256 + c.toNat) = x * 256 + c.toNat := by rw [IntKind.wrap_u64]; omega
        have q3 : IntKind.u64.wrap (c.toNat : Int) = c.toNat := by rw [IntKind.wrap_u64]; omega
        have q4 : Go.bits .or .u64 ((x : Int) * 256) (c.toNat : Int) = ((x * 256 + c.toNat : Nat) : Int) := bits_or256 _ _ hb hu
        have q5 : (0 : Int) ≤ p := by omega
        have q6 : (p : Int) < l.length := by omega
        have q7 : IntKind.i64.wrap ((p : Int) - 1) = p - 1 := by rw [IntKind.wrap_i64]; omega
        have HS := Lib.hid hs
        clear hx hs
        go_wp2_with fail
        go_round
        case rel =>
          have hs := HS.out
          rcases p with _ | p
          · right
            refine ⟨rfl, ?_⟩
            rw [List.drop_zero] at hs
            rw [hs]; first | rfl | exact congrArg (Value.int .u64) (by omega)
          · left
            refine ⟨p, by omega, ?_, ?_⟩
            · exact congrArg (Value.int .i64) (by omega)
            · rw [hs]; exact congrArg (Value.int .u64) (by omega)
        case measure => first | (simp [intOf]; done) | (simp [intOf]; omega)
      · go_wp2_with fail
        go_ret
        exact ⟨rfl, rfl⟩
  · have h9 : (l.length : Int) < 8 := by omega
    have hz : IntKind.i64.wrap ((l.length : Int) - 1) = l.length - 1 := by rw [IntKind.wrap_i64]; omega
    go_enter Tryz.func100, Tryz.ntmps100
    go_wp2_with fail
    go_loop [3, 4] (fun v i => (∃ p : Nat, p < l.length ∧ i = .int .i64 (p : Int) ∧ v = .int .u64 (leN (l.drop (p+1)) : Nat)) ∨ (i = .int .i64 (-1) ∧ v = .int .u64 (leN l : Nat))) (fun _ i => (intOf i + 1).toNat)
    case atStart =>
      rcases (by omega : l.length = 0 ∨ 0 < l.length) with h0 | h0
      · right
        obtain rfl : l = [] := List.eq_nil_of_length_eq_zero h0
        first | exact ⟨rfl, rfl⟩ | (exfalso; simp at h8)
      · left
        refine ⟨l.length - 1, by omega, ?_, ?_⟩
        · first | go_num | exact congrArg (Value.int .i64) (by omega)
        · rw [show l.length - 1 + 1 = l.length by omega, List.drop_length]; rfl
    case round =>
      rcases hrel with ⟨p, hp, rfl, rfl⟩ | ⟨rfl, rfl⟩
      · have hs := leN_drop l p hp
        have hb := leN_drop_le l (p+1) hl (by omega)
        obtain ⟨x, hx⟩ : ∃ x, x = leN (l.drop (p+1)) := ⟨_, rfl⟩
        obtain ⟨c, hc⟩ : ∃ c, l[p] = c := ⟨_, rfl⟩
        have hu := c.toNat_lt
        rw [← hx] at hb hs
        rw [hc] at hs
        rw [← hx]
        have q1 : IntKind.u64.wrap ((x : Int) * 256) = x * 256 := by rw [IntKind.wrap_u64]; omega
        have q2 : IntKind.u64.wrap ((x : Int) * 256 + c.toNat) = x * 256 + c.toNat := by rw [IntKind.wrap_u64]; omega
        have q3 : IntKind.u64.wrap (c.toNat : Int) = c.toNat := by rw [IntKind.wrap_u64]; omega
        have q4 : Go.bits .or .u64 ((x : Int) * 256) (c.toNat : Int) = ((x * 256 + c.toNat : Nat) : Int) := bits_or256 _ _ hb hu
        have q5 : (0 : Int) ≤ p := by omega
        have q6 : (p : Int) < l.length := by omega
        have q7 : IntKind.i64.wrap ((p : Int) - 1) = p - 1 := by rw [IntKind.wrap_i64]; omega
        have HS := Lib.hid hs
        clear hx hs
        go_wp2_with fail
        go_round
        case rel =>
          have hs := HS.out
          rcases p with _ | p
          · right
            refine ⟨rfl, ?_⟩
            rw [List.drop_zero] at hs
            rw [hs]; first | rfl | exact congrArg (Value.int .u64) (by omega)
          · left
            refine ⟨p, by omega, ?_, ?_⟩
            · exact congrArg (Value.int .i64) (by omega)
            · rw [hs]; exact congrArg (Value.int .u64) (by omega)
        case measure => first | (simp [intOf]; done) | (simp [intOf]; omega)
      · go_wp2_with fail
        go_ret
        exact ⟨rfl, rfl⟩
end Go.Proofs.YtfbnaemnblannaaGreat
