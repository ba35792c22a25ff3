/- Package escutcheonbook: the lists of numbers are marked. -/
import Derived.Test.YtfpepaeoclmcpaaGreatBookStill
import Derived.Test.YtfpepaeoclmcpaaGreatRegionW
set_option linter.unusedSimpArgs false
set_option linter.unusedVariables false
namespace Go.Proofs.YtfpepaeoclmcpaaGreat
open Go.RowKit Go.Esc
/-- w' is w but for new blocks and those of G. -/
structure Cg (G : Nat → Prop) (w w' : World) : Prop where
  os : w'.os = w.os
  tape : w'.tape = w.tape
  output : w'.output = w.output
  size : w.heap.size ≤ w'.heap.size
  block : ∀ k, k < w.heap.size → ¬ G k → w'.heap[k]? = w.heap[k]?
theorem Cg.refl (G : Nat → Prop) (w : World) : Cg G w w := ⟨rfl, rfl, rfl, Nat.le_refl _, fun _ _ _ => rfl⟩
theorem Cg.pu {G : Nat → Prop} {a b c : World} (h : Cg G a b) (hp : Pu b c) : Cg G a c := ⟨hp.os.trans h.os, hp.tape.trans h.tape, hp.output.trans h.output, Nat.le_trans h.size hp.size, fun i hi hg => (hp.block i (Nat.lt_of_lt_of_le hi h.size)).trans (h.block i hi hg)⟩
theorem Cg.grown {G : Nat → Prop} {a b c : World} {g : Nat} (h : Cg G a b) (hp : b.grownBy c (some g)) (hg : G g) : Cg G a c := ⟨hp.os.trans h.os, hp.tape.trans h.tape, hp.output.trans h.output, Nat.le_trans h.size hp.size, fun i hi hn => (hp.block i (Nat.lt_of_lt_of_le hi h.size) (fun e => hn (by cases e; exact hg))).trans (h.block i hi hn)⟩
theorem Cg.cell {G : Nat → Prop} {a b : World} (h : Cg G a b) {g j : Nat} (hg : g < a.heap.size) (hn : ¬ G g) : b.cell? ⟨g, j, none⟩ = a.cell? ⟨g, j, none⟩ := by
  have := h.block g hg hn
  simp only [World.cell?, this]
theorem own_puQ {B : Nat} {e : TypeId} {k : Nat} {v : Value} {n : Nat} {xs : List Value} {w w' : World} (h : w.ownsRow B e k v n xs) (hb : Pu w w') : w'.ownsRow B e k v n xs :=
  h.kept (row := none) ⟨hb.os, hb.tape, hb.output, hb.size, fun i hi _ => hb.block i hi⟩ (Classical.em _)
/-- The kept lists. -/
def Own (w : World) (vs : List Value) (cs : Nat → List Int) : Prop := ∀ (j : Nat) (v : Value), vs[j]? = some v → w.ownsRow 0 3 1 v (cs j).length (ints (cs j))
theorem Own.pu {w w' : World} {vs : List Value} {cs : Nat → List Int} (h : Own w vs cs) (hp : Pu w w') : Own w' vs cs := fun j v hj => own_puQ (h j v hj) hp
theorem ints_set (l : List Int) (k : Nat) (x : Int) : (ints l).set k (.int .i64 x) = ints (l.set k x) := by simp [ints, List.map_set]
/-- The lists while list i is marked, k of it. -/
def halfL (i k : Nat) (l : List Int) : List Int := (marksL i 0 l.length).take k ++ l.drop k
theorem halfL_length (i k : Nat) (l : List Int) (h : k ≤ l.length) : (halfL i k l).length = l.length := by simp [halfL, marksL_length]; omega
theorem halfL_zero (i : Nat) (l : List Int) : halfL i 0 l = l := by simp [halfL]
theorem halfL_all (i : Nat) (l : List Int) : halfL i l.length l = marksL i 0 l.length := by simp [halfL, marksL_length, List.take_of_length_le]
theorem halfL_set (i k : Nat) (l : List Int) (h : k < l.length) : (halfL i k l).set k ((marksL i 0 l.length)[k]'(by rw [marksL_length]; exact h)) = halfL i (k+1) l := by
  have hm := marksL_length i 0 l.length
  have hk : k - min k (marksL i 0 l.length).length = 0 := by rw [hm]; omega
  rw [halfL, halfL, List.set_append, if_neg (by simp; omega), List.length_take, hk, List.drop_eq_getElem_cons h, List.set_cons_zero, List.take_succ_eq_append_getElem (by omega), List.append_assoc]
  rfl
def stepL (cs : Nat → List Int) (i : Nat) (l : List Int) : Nat → List Int := fun j => if j = i then l else cs j
def doneL (ls : Nat → List Int) (i : Nat) : Nat → List Int := fun j => if j < i then marksL j 0 (ls j).length else ls j
theorem doneL_length (ls : Nat → List Int) (i j : Nat) : (doneL ls i j).length = (ls j).length := by unfold doneL; split <;> simp [marksL_length]
theorem doneL_at (ls : Nat → List Int) (i : Nat) : doneL ls i i = ls i := by simp [doneL]
theorem doneL_succ (ls : Nat → List Int) (i : Nat) : stepL (doneL ls i) i (marksL i 0 (ls i).length) = doneL ls (i+1) := by
  funext j
  unfold stepL doneL
  by_cases h : j = i
  · subst h; simp
  · rw [if_neg h]
    by_cases h2 : j < i
    · rw [if_pos h2, if_pos (by omega)]
    · rw [if_neg h2, if_neg (by omega)]
theorem stepL_stepL (cs : Nat → List Int) (i : Nat) (a b : List Int) : stepL (stepL cs i a) i b = stepL cs i b := by funext j; unfold stepL; split <;> rfl
theorem stepL_same (cs : Nat → List Int) (i : Nat) : stepL cs i (cs i) = cs := by
  funext j; unfold stepL; split
  · rename_i h; rw [h]
  · rfl
theorem Own.step {w w' : World} {vs : List Value} {cs : Nat → List Int} {i g n cap : Nat} (h : Own w vs cs) (hv : vs[i]? = some (.slice (some ⟨g, 0, none⟩) n cap)) (hd : ∀ (a b : Nat) (u v : Value), a ≠ b → vs[a]? = some u → vs[b]? = some v → u.ownBlock = none ∨ u.ownBlock ≠ v.ownBlock)
    {l : List Int} (ho : w'.ownsRow 0 3 1 (.slice (some ⟨g, 0, none⟩) n cap) n (ints l)) (hl : l.length = n) (hg : w.grownBy w' (some g)) : Own w' vs (stepL cs i l) := by
  intro j v hj
  by_cases hji : j = i
  · subst hji
    rw [hv] at hj; cases hj
    simp only [stepL, if_true, hl]; exact ho
  · simp only [stepL, if_neg hji]
    exact (h j v hj).kept hg (hd j i v _ hji hj hv)
set_option maxRecDepth 100000 in
set_option maxHeartbeats 3200000 in
theorem putInts (G : Nat → Prop) (b : Nat) (e : TypeId) (xs : List Value) (v2 : Value) (vs : List Value) (ls : Nat → List Int) (w : World) (hr : Row w b e xs) (h2 : xs[2]? = some v2) (s2 : SL w v2 vs)
    (hGb : ¬ G b) (hG2 : ∀ g, v2.ownBlock = some g → ¬ G g) (hGv : ∀ (j : Nat) (v : Value) (g : Nat), vs[j]? = some v → v.ownBlock = some g → G g) (hGs : ∀ g, G g → g < w.heap.size)
    (hd : ∀ (a b : Nat) (u v : Value), a ≠ b → vs[a]? = some u → vs[b]? = some v → u.ownBlock = none ∨ u.ownBlock ≠ v.ownBlock)
    (hl0 : ∀ j, j < vs.length → 0 < (ls j).length ∧ (ls j).length ≤ 1000) (hO : Own w vs ls) :
    Calls Tryz.prog 32 #[.pointer (some ⟨b, 0, none⟩)] w fun e w' => e = .returned (.tuple #[]) ∧ Cg G w w' ∧ Own w' vs (doneL ls vs.length) := by
  have hx2 : 2 < xs.length := (List.getElem?_eq_some_iff.1 h2).1
  have hB2 : ∀ w' : World, Cg G w w' → w'.cell? ⟨b, 2, none⟩ = some v2 := fun w' hp => by rw [hp.cell hr.lt hGb, hr.cell 2 hx2, ← List.getElem?_eq_getElem, h2]
  obtain ⟨q2, c2, rfl, hm, hq2, hcc⟩ := s2
  have hGq : ¬ G q2 := hG2 q2 rfl
  have hC2 : ∀ w' : World, Cg G w w' → ∀ j u, vs[j]? = some u → w'.cell? ⟨q2, j, none⟩ = some u := fun w' hp j u hj => by rw [hp.cell hq2 hGq]; exact hcc j u hj
  have HB2 := Lib.hid hB2
  have HC2 := Lib.hid hC2
  have HGV := Lib.hid hGv
  have HGS := Lib.hid hGs
  have HD := Lib.hid hd
  have HL0 := Lib.hid hl0
  clear hB2 hC2 hGv hGs hd hl0 hcc h2 hx2 hr hG2
  go_enter Tryz.func32, Tryz.ntmps32
  go_wp2_with fail
  go_loopw [2, 3, 4] (fun x _ _ wr => ∃ i : Nat, i ≤ vs.length ∧ x = .int .i64 i ∧ Cg G w wr ∧ Own wr vs (doneL ls i)) (fun x _ _ _ => vs.length - (intOf x).toNat)
  case atStart => exact ⟨0, Nat.zero_le _, rfl, Cg.refl _ _, hO⟩
  case round =>
    clear hO
    obtain ⟨i, hi, rfl, hcg, hown⟩ := hrel
    have hb2 := HB2.out wr hcg
    by_cases hlt : i < vs.length
    · have hi1 : (i : Int) < vs.length := by omega
      have hi0 : (0 : Int) ≤ i := by omega
      obtain ⟨v, hv⟩ : ∃ v, vs[i]? = some v := ⟨_, List.getElem?_eq_getElem hlt⟩
      have hc2 := HC2.out wr hcg i v hv
      obtain ⟨l0, l1⟩ := HL0.out i hlt
      obtain ⟨l, hll⟩ : ∃ l, l = ls i := ⟨_, rfl⟩
      obtain ⟨L, hL⟩ : ∃ L, L = l.length := ⟨_, rfl⟩
      have hov := hown i v hv
      rw [doneL_at, ← hll, ← hL] at hov
      rw [← hll, ← hL] at l0 l1
      obtain ⟨g, cap, rfl, -, hg⟩ := own_form hov l0
      have hGg := HGV.out i _ g hv rfl
      have hMk := fun w' => markInts i 0 L (by omega) (by omega) l1 w'
      rw [show ((0 : Nat) : Int) = 0 from rfl] at hMk
      have HMK := Lib.hid hMk
      have HV := Lib.hid hv
      have HLL := Lib.hid hll
      have HLE := Lib.hid hL
      clear hMk hv hll hL hov
      go_wp2_with (go_at_call 67; refine (HMK.out _).mono ?_; rintro e w1 ⟨mv, rfl, hmo, hp1⟩; obtain ⟨gm, capm, rfl, hgm1, hgm2⟩ := own_form hmo l0)
      have hlen : (ls i).length = L := by rw [← HLL.out, HLE.out]
      go_loopw [4] (fun x wq => ∃ k : Nat, k ≤ L ∧ x = .int .i64 k ∧ Cg G w wq ∧ Own wq vs (stepL (doneL ls i) i (halfL i k (ls i))) ∧ wq.ownsRow wr.heap.size 3 1 (.slice (some ⟨gm, 0, none⟩) L capm) L (ints (marksL i 0 L))) (fun x _ => L - (intOf x).toNat)
      case atStart => exact ⟨0, Nat.zero_le _, rfl, hcg.pu hp1, by rw [halfL_zero]; have := stepL_same (doneL ls i) i; rw [doneL_at] at this; rw [this]; exact hown.pu hp1, hmo⟩
      case round =>
        have hgs := HGS.out g hGg
        have hws := hcg.size
        clear hmo hp1 hown hb2 hc2 hcg
        obtain ⟨k, hk, rfl, hcg, hown, hmo⟩ := hrel
        by_cases hkl : k < L
        · have hk1 : (k : Int) < L := by omega
          have hk0 : (0 : Int) ≤ k := by omega
          have hml := marksL_length i 0 L
          obtain ⟨y, hy⟩ : ∃ y, (marksL i 0 L)[k]'(by omega) = y := ⟨_, rfl⟩
          have hoi := hown i _ HV.out
          simp only [stepL, if_true] at hoi
          rw [halfL_length _ _ _ (by omega), hlen] at hoi
          have hset : (halfL i k (ls i)).set k y = halfL i (k+1) (ls i) := by
            have := halfL_set i k (ls i) (by omega)
            rw [← this, ← hy]
            congr 1
            simp only [hlen]
          have hmy : (ints (marksL i 0 L))[k]? = some (.int .i64 y) := by
            rw [← hy]; simp [ints, List.getElem?_eq_getElem (show k < (marksL i 0 L).length by omega)]
          have HSET := Lib.hid hset
          have HMY := Lib.hid hmy
          have hhl := halfL_length i k (ls i) (by omega)
          have hch : ∃ u, (ints (halfL i k (ls i)))[k]? = some u := ⟨_, List.getElem?_eq_getElem (by simp [ints]; omega)⟩
          have HCH := Lib.hid hch
          have hmc : ∀ w' : World, Pu wr w' → w'.cell? ⟨gm, k, none⟩ = some (.int .i64 y) := fun w' hp => by rw [(own_puQ hmo hp).cellAt k (by omega)]; exact HMY.out
          have hBc : ∀ w' : World, Pu wr w' → w'.cell? ⟨b, 2, none⟩ = some _ := fun w' hp => HB2.out w' (hcg.pu hp)
          have hVc : ∀ w' : World, Pu wr w' → w'.cell? ⟨q2, i, none⟩ = some _ := fun w' hp => HC2.out w' (hcg.pu hp) i _ HV.out
          have HMC := Lib.hid hmc
          have HBC := Lib.hid hBc
          have HVC := Lib.hid hVc
          clear hset hmy hy hhl hch hmc hBc hVc hml
          go_wp2_with fail
          apply region_last (n := 13) (hn := by kernel_rfl) (hlast := rfl) (hU := by kernel_rfl) (Φs := (Is _ :: Is _ :: Is _ :: Is _ :: Is _ :: Is _ :: Is _ :: Is _ :: Is _ :: Is _ :: Is _ :: Is _ :: Is _ :: [])) (hm := by kernel_rfl) (hE := by kernel_rfl) (hD := by kernel_rfl) (hsize := by kernel_rfl)
          case hop =>
            refine ⟨?_, ?_, ?_, ?_, ?_, ?_, ?_, ?_, ?_, ?_, ?_, ?_, ?_, trivial⟩
            · intro a' w' hs hp he
              have e0 := hs 0 (by kernel_rfl)
              try simp [Is, Region.binds] at he
              exact op_val rfl (wanted_none rfl) (by first | (go_simp; done) | (go_simp; rfl) | (simp [execOp, Act.eval, go_sem, *]; done) | (simp [execOp, Act.eval, go_sem, *]; rfl)) rfl (Pu.refl _)
            · intro a' w' hs hp he
              try simp [Is, Region.binds] at he
              exact op_val rfl (wanted_none rfl) (by first | (go_simp; done) | (go_simp; rfl) | (simp [execOp, Act.eval, go_sem, *]; done) | (simp [execOp, Act.eval, go_sem, *]; rfl)) rfl (Pu.refl _)
            · intro a' w' hs hp he
              try simp [Is, Region.binds] at he
              exact op_val rfl (wanted_none rfl) (by first | (go_simp; done) | (go_simp; rfl) | (simp [execOp, Act.eval, go_sem, *]; done) | (simp [execOp, Act.eval, go_sem, *]; rfl)) rfl (Pu.refl _)
            · intro a' w' hs hp he
              try simp [Is, Region.binds] at he
              have hc := HBC.out _ hp; exact op_val rfl (wanted_none rfl) (by first | (go_simp; done) | (go_simp; rfl)) rfl (Below.refl _ _)
            · intro a' w' hs hp he
              have e2 := hs 2 (by kernel_rfl)
              try simp [Is, Region.binds] at he
              exact op_val rfl (wanted_none rfl) (by first | (go_simp; done) | (go_simp; rfl) | (simp [execOp, Act.eval, go_sem, *]; done) | (simp [execOp, Act.eval, go_sem, *]; rfl)) rfl (Pu.refl _)
            · intro a' w' hs hp he
              try simp [Is, Region.binds] at he
              exact op_val rfl (wanted_none rfl) (by first | (go_simp; done) | (go_simp; rfl) | (simp [execOp, Act.eval, go_sem, *]; done) | (simp [execOp, Act.eval, go_sem, *]; rfl)) rfl (Pu.refl _)
            · intro a' w' hs hp he
              try simp [Is, Region.binds] at he
              have hc := HVC.out _ hp; exact op_val rfl (wanted_none rfl) (by first | (go_simp; done) | (go_simp; rfl)) rfl (Below.refl _ _)
            · intro a' w' hs hp he
              have e4 := hs 4 (by kernel_rfl)
              try simp [Is, Region.binds] at he
              exact op_val rfl (wanted_none rfl) (by first | (go_simp; done) | (go_simp; rfl) | (simp [execOp, Act.eval, go_sem, *]; done) | (simp [execOp, Act.eval, go_sem, *]; rfl)) rfl (Pu.refl _)
            · intro a' w' hs hp he
              have e3 := hs 3 (by kernel_rfl)
              try simp [Is, Region.binds] at he
              exact op_val rfl (wanted_none rfl) (by first | (go_simp; done) | (go_simp; rfl) | (simp [execOp, Act.eval, go_sem, *]; done) | (simp [execOp, Act.eval, go_sem, *]; rfl)) rfl (Pu.refl _)
            · intro a' w' hs hp he
              have e4 := hs 4 (by kernel_rfl)
              try simp [Is, Region.binds] at he
              exact op_val rfl (wanted_none rfl) (by first | (go_simp; done) | (go_simp; rfl) | (simp [execOp, Act.eval, go_sem, *]; done) | (simp [execOp, Act.eval, go_sem, *]; rfl)) rfl (Pu.refl _)
            · intro a' w' hs hp he
              try simp [Is, Region.binds] at he
              exact op_val rfl (wanted_none rfl) (by first | (go_simp; done) | (go_simp; rfl) | (simp [execOp, Act.eval, go_sem, *]; done) | (simp [execOp, Act.eval, go_sem, *]; rfl)) rfl (Pu.refl _)
            · intro a' w' hs hp he
              try simp [Is, Region.binds] at he
              have hc := HMC.out _ hp; exact op_val rfl (wanted_none rfl) (by first | (go_simp; done) | (go_simp; rfl)) rfl (Below.refl _ _)
            · intro a' w' hs hp he
              try simp [Is, Region.binds] at he
              exact op_val rfl (wanted_none rfl) (by first | (go_simp; done) | (go_simp; rfl) | (simp [execOp, Act.eval, go_sem, *]; done) | (simp [execOp, Act.eval, go_sem, *]; rfl)) rfl (Pu.refl _)
          case hend =>
            intro a' w' hdef hsz hs hp hall
            obtain ⟨r0, r1, r2, r3, r4, r5, r6, r7, r8, r9, r10, r11, r12, -⟩ := hall
            have hA := agree_done (agree_step (agree_step (agree_step (agree_step (agree_step (agree_step (agree_step (agree_step (agree_step (agree_step (agree_step (agree_step (agree_step (agree_init [30, 31, 32, 33, 34, 35, 36, 37, 38, 39, 40, 41, 42] hsz hs (by kernel_rfl)) r0) r1) r2) r3) r4) r5) r6) r7) r8) r9) r10) r11) r12)
            have ha := act_of hA hdef
            rw [ha]
            clear ha hA hs hsz hdef r0 r1 r2 r3 r4 r5 r6 r7 r8 r9 r10 r11 r12 
            (try simp only [List.setIfInBounds_toArray])
            (try dsimp only [List.set_cons_zero, List.set_cons_succ])
            (try simp only [Exit.then])
            have hown' := own_puQ hoi hp; obtain ⟨v0, hcl⟩ : ∃ v0, w'.cell? ⟨g, k, none⟩ = some v0 := (by obtain ⟨u0, hu0⟩ := HCH.out; exact ⟨u0, by rw [hown'.cellAt k (by omega)]; exact hu0⟩); have hf := hown'.frozenAt k; have hst := hown'.stored k (.int .i64 y); rw [ints_set, HSET.out] at hst
            refine op_done rfl (wanted_none rfl) (by first | (go_simp; done) | (go_simp; rfl)) ?_
            (try simp only [Exit.inBlock, Exit.then])
            go_wp2_with fail
            go_roundw
            case rel => exact ⟨k + 1, by omega, by go_num, (hcg.pu hp).grown hst.2 hGg, by
              have := Own.step (hown.pu hp) HV.out HD.out hst.1 (by rw [halfL_length _ _ _ (by omega), hlen]) hst.2
              rw [stepL_stepL] at this
              exact this, (own_puQ hmo hp).kept hst.2 (Or.inr (by simp [Value.ownBlock]; omega))⟩
            case measure => simp [intOf]; omega
        · obtain rfl : k = L := by omega
          have hlk : decide ((k : Int) < k) = false := by simp
          have hfin : Own wr vs (doneL ls (i+1)) := by
            have h1 := halfL_all i (ls i)
            rw [hlen] at h1
            rw [h1] at hown
            have h2 := doneL_succ ls i
            rw [hlen] at h2
            rw [h2] at hown
            exact hown
          clear hown hmo
          go_wp2_with fail
          go_roundw
          case rel => exact ⟨i + 1, by omega, by go_num, hcg, hfin⟩
          case measure => simp [intOf]; omega
    · obtain rfl : i = vs.length := by omega
      have hlt' : decide ((vs.length : Int) < vs.length) = false := by simp
      go_wp2_with fail
      go_end0
      exact ⟨rfl, hcg, hown⟩
end Go.Proofs.YtfpepaeoclmcpaaGreat
