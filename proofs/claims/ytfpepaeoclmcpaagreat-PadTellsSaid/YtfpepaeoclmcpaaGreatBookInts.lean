/- Package escutcheonbook: lists of numbers: alike, copied, marked. -/
import Derived.Test.YtfpepaeoclmcpaaGreatPadFill
import Derived.Test.YtfpepaeoclmcpaaGreatRegion
set_option linter.unusedSimpArgs false
set_option linter.unusedVariables false
namespace Go.Proofs.YtfpepaeoclmcpaaGreat
open Go.RowKit Go.Esc
theorem cell_one_new' (w : World) (x : Value) (t : TypeId) : ∀ j u, [x][j]? = some u → (w.alloc (.cells #[x] t)).cell? ((⟨w.heap.size, 0, none⟩ : Addr).add j) = some u := by
  intro j u hj
  match j, hj with
  | 0, hj =>
    simp at hj
    subst hj
    simp [Addr.add]
/-- The slice v holds the numbers l. -/
def LI (w : World) (v : Value) (l : List Int) : Prop := ∃ g cap, v = .slice (some ⟨g, 0, none⟩) l.length cap ∧ l.length ≤ 100000 ∧ g < w.heap.size ∧ ∀ j u, (ints l)[j]? = some u → w.cell? ⟨g, j, none⟩ = some u
theorem LI.pu {w w' : World} {v : Value} {l : List Int} (h : LI w v l) (hp : Pu w w') : LI w' v l := by
  obtain ⟨g, cap, hv, hm, hg, hc⟩ := h
  exact ⟨g, cap, hv, hm, Nat.lt_of_lt_of_le hg hp.size, fun j u hj => by rw [Below.cell hp (p := ⟨g, j, none⟩) hg]; exact hc j u hj⟩
theorem LI.own {w : World} {B : Nat} {v : Value} {n : Nat} {l : List Int} (h : w.ownsRow B 3 1 v n (ints l)) (hl : l.length = n) (h0 : 0 < n) (hn : n ≤ 100000) : LI w v l := by
  obtain ⟨g, cap, rfl, _, hg⟩ := own_form h h0
  subst hl
  exact ⟨g, cap, rfl, hn, hg, fun j u hj => by
    have hjl : j < l.length := by
      have := (List.getElem?_eq_some_iff.1 hj).1
      simpa [ints] using this
    rw [h.cellAt j (by omega)]; exact hj⟩
set_option maxRecDepth 100000 in
theorem sameInts (v1 v2 : Value) (l : List Int) (w : World) (h1 : LI w v1 l) (h2 : LI w v2 l) :
    Calls Tryz.prog 13 #[v1, v2] w fun e w' => e = .returned (.bool true) ∧ Pu w w' := by
  have H1 := Lib.hid h1
  have H2 := Lib.hid h2
  obtain ⟨g1, c1, rfl, hm, -, -⟩ := h1
  obtain ⟨g2, c2, rfl, -, -, -⟩ := h2
  have C1 : ∀ w' : World, Pu w w' → ∀ j u, (ints l)[j]? = some u → w'.cell? ⟨g1, j, none⟩ = some u := by
    intro w' hp
    obtain ⟨g, c, hv, _, _, hc⟩ := H1.out.pu hp
    cases hv; exact hc
  have C2 : ∀ w' : World, Pu w w' → ∀ j u, (ints l)[j]? = some u → w'.cell? ⟨g2, j, none⟩ = some u := by
    intro w' hp
    obtain ⟨g, c, hv, _, _, hc⟩ := H2.out.pu hp
    cases hv; exact hc
  have HC1 := Lib.hid C1
  have HC2 := Lib.hid C2
  clear C1 C2 H1 H2
  go_enter Tryz.func13, Tryz.ntmps13
  go_wp2_with fail
  go_loopw [5] (fun i wr => ∃ k : Nat, k ≤ l.length ∧ i = .int .i64 k ∧ Below w.heap.size w wr) (fun i _ => l.length - (intOf i).toNat)
  case atStart => exact ⟨0, Nat.zero_le _, rfl, Below.refl _ _⟩
  case round =>
    obtain ⟨k, hk, rfl, hbel⟩ := hrel
    by_cases hlt : k < l.length
    · have hk1 : (k : Int) < l.length := by omega
      have hk0 : (0 : Int) ≤ k := by omega
      obtain ⟨x, hx⟩ : ∃ x, (ints l)[k]? = some (.int .i64 x) := ⟨l[k], by simp [ints, List.getElem?_eq_getElem hlt]⟩
      have D1 : ∀ w' : World, Pu wr w' → w'.cell? ⟨g1, k, none⟩ = some (.int .i64 x) := fun w' hp => HC1.out w' (hbel.trans (Below.mono hp hbel.size)) k _ hx
      have D2 : ∀ w' : World, Pu wr w' → w'.cell? ⟨g2, k, none⟩ = some (.int .i64 x) := fun w' hp => HC2.out w' (hbel.trans (Below.mono hp hbel.size)) k _ hx
      have HD1 := Lib.hid D1
      have HD2 := Lib.hid D2
      clear D1 D2 hx
      go_wp2_with fail
      apply region_pu (Φs := (Is _ :: Is _ :: Is _ :: Is _ :: Is _ :: Is _ :: Is _ :: Is _ :: Is _ :: Is _ :: [])) (hm := by kernel_rfl) (hE := by kernel_rfl) (hD := by kernel_rfl) (hsize := by kernel_rfl)
      case hop =>
        refine ⟨?_, ?_, ?_, ?_, ?_, ?_, ?_, ?_, ?_, ?_, trivial⟩
        · intro a' w' hs hp he
          have e0 := hs 0 (by kernel_rfl)
          try simp [Is, Region.binds] at he
          exact op_val rfl (wanted_none rfl) (by first | (go_simp; done) | (go_simp; rfl) | (simp [execOp, Act.eval, go_sem, *]; done) | (simp [execOp, Act.eval, go_sem, *]; rfl)) rfl (Pu.refl _)
        · intro a' w' hs hp he
          have e5 := hs 5 (by kernel_rfl)
          try simp [Is, Region.binds] at he
          exact op_val rfl (wanted_none rfl) (by first | (go_simp; done) | (go_simp; rfl) | (simp [execOp, Act.eval, go_sem, *]; done) | (simp [execOp, Act.eval, go_sem, *]; rfl)) rfl (Pu.refl _)
        · intro a' w' hs hp he
          try simp [Is, Region.binds] at he
          exact op_val rfl (wanted_none rfl) (by first | (go_simp; done) | (go_simp; rfl) | (simp [execOp, Act.eval, go_sem, *]; done) | (simp [execOp, Act.eval, go_sem, *]; rfl)) rfl (Pu.refl _)
        · intro a' w' hs hp he
          try simp [Is, Region.binds] at he
          have hc := HD1.out _ hp; exact op_val rfl (wanted_none rfl) (by first | (go_simp; done) | (go_simp; rfl)) rfl (Below.refl _ _)
        · intro a' w' hs hp he
          have e1 := hs 1 (by kernel_rfl)
          try simp [Is, Region.binds] at he
          exact op_val rfl (wanted_none rfl) (by first | (go_simp; done) | (go_simp; rfl) | (simp [execOp, Act.eval, go_sem, *]; done) | (simp [execOp, Act.eval, go_sem, *]; rfl)) rfl (Pu.refl _)
        · intro a' w' hs hp he
          have e5 := hs 5 (by kernel_rfl)
          try simp [Is, Region.binds] at he
          exact op_val rfl (wanted_none rfl) (by first | (go_simp; done) | (go_simp; rfl) | (simp [execOp, Act.eval, go_sem, *]; done) | (simp [execOp, Act.eval, go_sem, *]; rfl)) rfl (Pu.refl _)
        · intro a' w' hs hp he
          try simp [Is, Region.binds] at he
          exact op_val rfl (wanted_none rfl) (by first | (go_simp; done) | (go_simp; rfl) | (simp [execOp, Act.eval, go_sem, *]; done) | (simp [execOp, Act.eval, go_sem, *]; rfl)) rfl (Pu.refl _)
        · intro a' w' hs hp he
          try simp [Is, Region.binds] at he
          have hc := HD2.out _ hp; exact op_val rfl (wanted_none rfl) (by first | (go_simp; done) | (go_simp; rfl)) rfl (Below.refl _ _)
        · intro a' w' hs hp he
          try simp [Is, Region.binds] at he
          exact op_val rfl (wanted_none rfl) (by first | (go_simp; done) | (go_simp; rfl) | (simp [execOp, Act.eval, go_sem, *]; done) | (simp [execOp, Act.eval, go_sem, *]; rfl)) rfl (Pu.refl _)
        · intro a' w' hs hp he
          try simp [Is, Region.binds] at he
          exact op_val rfl (wanted_none rfl) (by first | (go_simp; done) | (go_simp; rfl) | (simp [execOp, Act.eval, go_sem, *]; done) | (simp [execOp, Act.eval, go_sem, *]; rfl)) rfl (Pu.refl _)
      case hend =>
        intro a' w' hdef hsz hs hp hall
        obtain ⟨r0, r1, r2, r3, r4, r5, r6, r7, r8, r9, -⟩ := hall
        have hA := agree_done (agree_step (agree_step (agree_step (agree_step (agree_step (agree_step (agree_step (agree_step (agree_step (agree_step (agree_init [17, 18, 19, 20, 21, 22, 23, 24, 25, 26] hsz hs (by kernel_rfl)) r0) r1) r2) r3) r4) r5) r6) r7) r8) r9)
        have ha := act_of hA hdef
        rw [ha]
        clear ha hA hs hsz hdef r0 r1 r2 r3 r4 r5 r6 r7 r8 r9 
        (try simp only [List.setIfInBounds_toArray])
        (try dsimp only [List.set_cons_zero, List.set_cons_succ])
        (try simp only [Exit.then])
        have hbel2 := hbel.trans (Below.mono hp hbel.size)
        clear hp
        go_wp2_with fail
        go_roundw
        case rel => exact ⟨k + 1, by omega, by go_num, hbel2⟩
        case measure => simp [intOf]; omega
    · obtain rfl : k = l.length := by omega
      have hlt' : decide ((l.length : Int) < l.length) = false := by simp
      go_wp2_with fail
      go_ret
      exact ⟨rfl, hbel⟩
/-- Marks. -/
def marksL (i f n : Nat) : List Int := (List.range n).map fun k => -1000000 * (i : Int) - ((f + k : Nat) : Int) - 7
theorem marksL_length (i f n : Nat) : (marksL i f n).length = n := by simp [marksL]
theorem marksL_succ (i f n : Nat) : marksL i f (n+1) = marksL i f n ++ [-1000000 * (i : Int) - ((f + n : Nat) : Int) - 7] := by simp [marksL, List.range_succ]
set_option maxRecDepth 100000 in
theorem markInts (i f n : Nat) (hi : i ≤ 1000) (hf : f ≤ 1000) (hn : n ≤ 1000) (w : World) :
    Calls Tryz.prog 67 #[.int .i64 i, .int .i64 f, .int .i64 n] w fun e w' => ∃ v, e = .returned v ∧ w'.ownsRow w.heap.size 3 1 v n (ints (marksL i f n)) ∧ Pu w w' := by
  obtain ⟨i0, hii, hz0, hz1, hz2⟩ := info_parts infoI
  have hfn : IntKind.i64.wrap ((f : Int) + n) = f + n := by rw [IntKind.wrap_i64]; omega
  go_enter Tryz.func67, Tryz.ntmps67
  go_wp2_with fail
  go_loopw [7, 8] (fun v x wr => ∃ k : Nat, k ≤ n ∧ x = .int .i64 ((f + k : Nat) : Int) ∧ wr.ownsRow w.heap.size 3 1 v k (ints (marksL i f k)) ∧ Below w.heap.size w wr) (fun _ x _ => f + n - (intOf x).toNat)
  case atStart => exact ⟨0, Nat.zero_le _, rfl, World.ownsRow_nil _ _ _ _, Below.refl _ _⟩
  case round =>
    obtain ⟨k, hk, rfl, hown, hbel⟩ := hrel
    obtain ⟨va, vc, rfl, hlt'⟩ := own_slice hown
    obtain ⟨y, hy⟩ : ∃ y : Nat, y = f + k := ⟨_, rfl⟩
    rw [← hy]
    by_cases hlt : k < n
    · have h1 : (y : Int) < (f : Int) + n := by omega
      obtain ⟨m, hm⟩ : ∃ m : Int, m = -1000000 * (i : Int) - (y : Int) - 7 := ⟨_, rfl⟩
      have e0 : IntKind.i64.wrap (-1000000 * (i : Int)) = -1000000 * (i : Int) := by rw [IntKind.wrap_i64]; omega
      have e1 : IntKind.i64.wrap (-1000000 * (i : Int) - y) = -1000000 * (i : Int) - y := by rw [IntKind.wrap_i64]; omega
      have e2 : IntKind.i64.wrap (-1000000 * (i : Int) - y - 7) = m := by rw [IntKind.wrap_i64]; omega
      have e3 : IntKind.i64.wrap ((y : Int) + 1) = y + 1 := by rw [IntKind.wrap_i64]; omega
      have HM := Lib.hid hm
      have HY := Lib.hid hy
      clear hm hy
      go_wp2_with (at_builtin; refine wpList_append_own _ rfl _ _ 34 rfl w.heap.size 3 i0 (.int .i64 0) 1 8 Tryz.underlying34 hii hz0 hz1 hz2 rfl (by decide) (.slice va k vc) k _ rfl (hown.alloc _) ⟨wr.heap.size, 0, none⟩ 1 1 [.int .i64 m] rfl rfl (cell_one_new' _ _ _) (by simp [Value.oneCell']) (by unfold maxLen; omega) (by omega) (by have := hbel.size; simp; omega) ?_; intro v' w2 hown2 hgrow2 _)
      have hbel2 := (hbel.trans (Below.mono ((Below.refl wr.heap.size wr).alloc (Nat.le_refl _) (.cells #[.int .i64 m] 3)) hbel.size)).grown hgrow2 (by have := hbel.size; simp; omega) (fun j hj => (hlt' j hj).1)
      go_roundw
      case rel => exact ⟨k + 1, by omega, by have := HY.out; rw [show (y : Int) + 1 = ((f + (k + 1) : Nat) : Int) by omega], by
        rw [marksL_succ, ints, List.map_append]
        rw [← HY.out, ← HM.out]
        exact hown2, hbel2⟩
      case measure =>
        have := HY.out
        simp [intOf]; omega
    · obtain rfl : k = n := by omega
      have h1 : decide ((y : Int) < (f : Int) + k) = false := by simp; omega
      go_wp2_with fail
      go_ret
      exact ⟨_, rfl, hown, hbel⟩
set_option maxRecDepth 100000 in
theorem copyInts (v : Value) (l : List Int) (w : World) (h : LI w v l) :
    Calls Tryz.prog 15 #[v] w fun e w' => ∃ v', e = .returned v' ∧ w'.ownsRow w.heap.size 3 1 v' l.length (ints l) ∧ Pu w w' := by
  obtain ⟨i0, hii, hz0, hz1, hz2⟩ := info_parts infoI
  obtain ⟨g, cap, rfl, hm, hg, hc⟩ := h
  have hn : ∀ j u, (ints l)[j]? = some u → w.cell? ((⟨g, 0, none⟩ : Addr).add j) = some u := by
    intro j u hj; have := hc j u hj; cases j <;> simpa [Addr.add] using this
  have h1 : ∀ u ∈ ints l, u.oneCell' = true := by simp [ints, Value.oneCell']
  have HN := Lib.hid hn
  have H1 := Lib.hid h1
  clear hn h1 hc
  go_enter Tryz.func15, Tryz.ntmps15
  go_wp2_with (at_builtin; refine wpList_append_own _ rfl _ _ 34 rfl w.heap.size 3 i0 (.int .i64 0) 1 8 Tryz.underlying34 hii hz0 hz1 hz2 rfl (by decide) (.slice none 0 0) 0 [] rfl (World.ownsRow_nil _ _ _ _) ⟨g, 0, none⟩ l.length cap (ints l) rfl (by simp [ints]) HN.out H1.out (by unfold maxLen; omega) (by omega) (Nat.le_refl _) ?_; intro v' w2 hown2 hgrow2 _)
  go_ret
  exact ⟨v', rfl, by simpa using hown2, (Below.refl _ _).grown hgrow2 (Nat.le_refl _) (fun j hj => by cases hj)⟩
end Go.Proofs.YtfpepaeoclmcpaaGreat
