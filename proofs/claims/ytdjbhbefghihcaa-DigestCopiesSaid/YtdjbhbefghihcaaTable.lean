/- The table of a digest is made. -/
import Derived.Test.YtdjbhbefghihcaaMix
import Derived.Test.YtdjbhbefghihcaaUnhex
import Derived.Test.YtdjbhbefghihcaaOnce
set_option linter.unusedSimpArgs false
set_option linter.unusedVariables false
namespace Go.Esc
open Go Go.RowKit
/-- w' has new blocks, and block g may be changed. -/
structure But (g : Nat) (w w' : World) : Prop where
  os : w'.os = w.os
  tape : w'.tape = w.tape
  output : w'.output = w.output
  size : w.heap.size ≤ w'.heap.size
  block : ∀ k, k < w.heap.size → k ≠ g → w'.heap[k]? = w.heap[k]?
theorem But.refl (g : Nat) (w : World) : But g w w := ⟨rfl, rfl, rfl, Nat.le_refl _, fun _ _ _ => rfl⟩
theorem But.trans {g : Nat} {a b c : World} (h : But g a b) (k : But g b c) : But g a c :=
  ⟨k.os.trans h.os, k.tape.trans h.tape, k.output.trans h.output, Nat.le_trans h.size k.size, fun i hi hg => (k.block i (Nat.lt_of_lt_of_le hi h.size) hg).trans (h.block i hi hg)⟩
theorem But.pu {g : Nat} {a b : World} (h : Pu a b) : But g a b := ⟨h.os, h.tape, h.output, h.size, fun i hi _ => h.block i hi⟩
theorem But.set {g : Nat} (a : World) (o : Nat) (v : Value) : But g a (a.setCell ⟨g, o, none⟩ v) := ⟨rfl, rfl, rfl, by simp, fun _ _ hg => Below.heap_setCell _ _ _ _ hg⟩
theorem But.row {g k : Nat} {w w' : World} (h : But g w w') {e : TypeId} {xs : List Value} (hr : Row w k e xs) (hk : k ≠ g) : Row w' k e xs := hr.other (h.block k hr.lt hk)
theorem But.below {B g : Nat} {a w w' : World} (h : Below B a w) (k : But g w w') (hg : B ≤ g) (hB : B ≤ w.heap.size) : Below B a w' :=
  h.trans ⟨k.os, k.tape, k.output, k.size, fun i hi => k.block i (by omega) (by omega)⟩
theorem splice_snoc (ys : List Value) : ∀ (xs : List Value) (o : Nat) (v : Value), splice xs o (ys ++ [v]) = (splice xs o ys).set (o + ys.length) v := by
  induction ys with
  | nil => intro xs o v; rfl
  | cons y r ih => intro xs o v; rw [List.cons_append, splice, splice, ih, List.length_cons]; congr 1; omega
theorem flat_word (l : List Wd) (i : Nat) (h : i < l.length) : ((l.flatMap fun x => putB x.toNat 4).drop (4 * i)).take 4 = putB (l[i]).toNat 4 := by
  induction l generalizing i with
  | nil => simp at h
  | cons a l ih =>
    rw [List.flatMap_cons]
    have hl : (putB a.toNat 4).length = 4 := rfl
    cases i with
    | zero => simp [List.take_append_of_le_length, hl]
    | succ i =>
      rw [show 4 * (i + 1) = (putB a.toNat 4).length + 4 * i by rw [hl]; omega, List.drop_append, List.drop_eq_nil_of_le (by omega), List.nil_append, Nat.add_sub_cancel_left]
      simpa using ih i (by simpa using h)
theorem flat_length (l : List Wd) : (l.flatMap fun x => putB x.toNat 4).length = 4 * l.length := by
  induction l with
  | nil => rfl
  | cons a l ih => rw [List.flatMap_cons, List.length_append, ih, List.length_cons]; show 4 + _ = _; omega
theorem beN_putB4 (x : Wd) : BitVec.ofNat 32 (beN (putB x.toNat 4)) = x := by
  have hx := x.isLt
  apply BitVec.eq_of_toNat_eq
  rw [BitVec.toNat_ofNat]
  simp only [putB, beN, List.foldl_cons, List.foldl_nil, UInt8.toNat_ofNat']
  omega
end Go.Esc
namespace Go.Proofs.Ytdjbhbefghihcaa
open Go.RowKit Go.Esc
set_option maxRecDepth 100000 in
set_option maxHeartbeats 1600000 in
theorem words (l : List Wd) (h0 : 0 < l.length) (hm : l.length ≤ 100) (g off : Nat) (te : TypeId) (xs : List Value) (hx : off + l.length ≤ xs.length) (h : Bs) (hh : h = hex (l.flatMap fun x => putB x.toNat 4)) (w : World) (hrow : Row w g te xs) :
    Calls Try.prog 110 #[.slice (some ⟨g, off, none⟩) l.length l.length, S h] w fun e w' => e = .returned (.tuple #[]) ∧ Row w' g te (splice xs off (vs l)) ∧ But g w w' := by
  obtain ⟨b, hb⟩ : ∃ b, b = (l.flatMap fun x => putB x.toNat 4) := ⟨_, rfl⟩
  have hbl : b.length = 4 * l.length := by rw [hb, flat_length]
  rw [← hb] at hh
  have hu := fun w => unhex b (by omega) (by omega) w
  rw [← hh] at hu
  have HU := Lib.hid hu
  have HB := Lib.hid hb
  have HBL := Lib.hid hbl
  clear hu hh hb hbl
  go_enter Try.func110, Try.ntmps110
  go_wp2_with (go_at_call 139; refine (HU.out _).mono ?_; rintro e w1 ⟨rfl, hp1⟩)
  have hrow1 := hrow.pu hp1
  have hbut1 : But g w w1 := But.pu hp1
  go_loopw [14] (fun i wr => ∃ j : Nat, j ≤ l.length ∧ i = .int .i64 j ∧ Row wr g te (splice xs off (vs (l.take j))) ∧ But g w wr) (fun i _ => l.length - (intOf i).toNat)
  case atStart => exact ⟨0, by omega, rfl, hrow1, hbut1⟩
  case round =>
    clear hrow1 hbut1 hp1
    obtain ⟨j, hj, rfl, hr, hbut⟩ := hrel
    by_cases hlt : j < l.length
    · have hbig := fun w => big ((b.take (4 * j + 4)).drop (4 * j)) w (by simp; omega)
      have HBG := Lib.hid hbig
      have hbl := HBL.out
      have hs0 : (0 : Int) ≤ 4 * j := by omega
      have hs5 : (0 : Int) ≤ 4 * j + 4 := by omega
      have hs1 : (4 : Int) * j ≤ 4 * j + 4 := by omega
      have hs2 : (4 : Int) * j + 4 ≤ b.length := by omega
      have hs3 : ((4 : Int) * j).toNat = 4 * j := by omega
      have hs4 : ((4 : Int) * j + 4).toNat = 4 * j + 4 := by omega
      have hs6 : (j : Int) < l.length := by omega
      have hs7 : IntKind.i64.wrap ((4 : Int) * j) = 4 * j := by rw [IntKind.wrap_i64]; omega
      have hs8 : IntKind.i64.wrap ((4 : Int) * j + 4) = 4 * j + 4 := by rw [IntKind.wrap_i64]; omega
      clear hbl hbig
      go_wp2_with (go_at_call 78; refine (HBG.out _).mono ?_; rintro e w2 ⟨rfl, hp2⟩; replace hr := hr.pu hp2; replace hbut := hbut.trans (But.pu hp2); have hc := hr.cell (off + j) (by rw [splice_length]; omega); have hf := hr.frozen (off + j) (by rw [splice_length]; omega))
      go_roundw
      case rel =>
        refine ⟨j + 1, by omega, by go_num, ?_, hbut.trans (But.set _ _ _)⟩
        have := hr.set (off + j) (V l[j])
        have e : (vs (l.take j)).length = j := by rw [vs_length, List.length_take]; omega
        rw [show off + j = off + (vs (l.take j)).length by rw [e], ← splice_snoc] at this
        rw [List.take_succ_eq_append_getElem hlt]
        have e2 : BitVec.ofNat 32 (beN ((b.take (4 * j + 4)).drop (4 * j))) = l[j] := by rw [word_of, HB.out, flat_word l j hlt, beN_putB4]
        rw [e2]
        rw [e] at this
        rw [show vs (l.take j ++ [l[j]]) = vs (l.take j) ++ [V l[j]] by rw [vs, vs, List.map_append]; rfl]
        exact this
      case measure => simp [intOf]; omega
    · obtain rfl : j = l.length := by omega
      rw [List.take_length] at hr
      go_wp2_with fail
      go_end0
      exact ⟨rfl, hr, hbut⟩
end Go.Proofs.Ytdjbhbefghihcaa
