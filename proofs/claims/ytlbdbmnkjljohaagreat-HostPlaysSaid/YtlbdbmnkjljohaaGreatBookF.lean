/- The document's book of users: Fail. -/
import Derived.Test.YtlbdbmnkjljohaaGreatBookR
set_option linter.unusedSimpArgs false
set_option linter.unusedVariables false
namespace Go.Proofs.YtlbdbmnkjljohaaGreat
open Go.RowKit Go.Esc
theorem failS_big {now : Int} {u : UserS} (h : ¬ u.fails + 1 < 3) : failS now u = { u with fails := 0, locked := true, til := if now ≤ 9223372036854775787 then now + 20 else 9223372036854775807 } := by
  unfold failS; rw [if_neg h]
section
variable {w w' : World} {bb : Nat} {x : BI} {l : List UserS}
theorem BookAt.cellsC (h : BookAt w bb x l) (hc : Cg x.G w w') : w'.cell? ⟨bb, 0, none⟩ = some (.slice x.aL l.length x.cL) ∧ w'.cell? ⟨bb, 1, none⟩ = some (.slice (some ⟨x.gF, 0, none⟩) l.length l.length) ∧ w'.cell? ⟨bb, 2, none⟩ = some (.slice (some ⟨x.gU, 0, none⟩) l.length l.length) ∧ w'.cell? ⟨bb, 3, none⟩ = some (.slice (some ⟨x.gK, 0, none⟩) l.length l.length) := by
  have hb := hc.row h.b (by
    rintro (e | e | e)
    · exact rowNe h.b h.f (by decide) e
    · exact rowNe h.b h.u (by decide) e
    · exact rowNe h.b h.k (by decide) e)
  refine ⟨?_, ?_, ?_, ?_⟩
  · have := hb.cell 0 (by simp); simpa using this
  · have := hb.cell 1 (by simp); simpa using this
  · have := hb.cell 2 (by simp); simpa using this
  · have := hb.cell 3 (by simp); simpa using this
set_option maxRecDepth 100000 in
set_option maxHeartbeats 3200000 in
theorem failB (h : BookAt w bb x l) (n : Bs) (now : Int) (h1 : -9223372036854775808 ≤ now) (h2 : now ≤ 9223372036854775807) :
    Calls Tryz.prog 64 #[.pointer (some ⟨bb, 0, none⟩), S n, .int .i64 now] w fun e w' => e = .returned (.bool (failR l n)) ∧ BookAt w' bb x (modN l n (failS now)) ∧ Cg x.G w w' := by
  have HA := Lib.hid (atB h n)
  obtain ⟨c0, c1, c2, c3⟩ := h.cells
  have hlen := h.len
  cases hp : posN l n with
  | none =>
    rw [modN_none hp, show failR l n = false by unfold failR; rw [hp]; rfl]
    have ha : atV l n = -1 := by unfold atV; rw [hp]
    have HA2 := Lib.hid (ha ▸ HA.out)
    have H := Lib.hid h
    clear h hp ha HA
    go_enter Tryz.func64, Tryz.ntmps64
    go_wp2_with (go_at_call 39; refine HA2.out.mono ?_; rintro e w1 ⟨rfl, rfl⟩)
    go_ret
    exact ⟨rfl, H.out, Cg.refl _ _⟩
  | some i =>
    obtain ⟨hi, hnm⟩ := posN_some hp
    rw [modN_at hp hi]
    have ha : atV l n = (i : Int) := by unfold atV; rw [hp]
    have HA2 := Lib.hid (ha ▸ HA.out)
    have hf := h.f.cell' i (by rw [failC_length]; exact hi)
    rw [failC_get hi] at hf
    have hz := h.f.frozen i (by rw [failC_length]; exact hi)
    have k0 : (0 : Int) ≤ i := by omega
    have k1 : (i : Int) < l.length := by omega
    have hfb := h.fb _ (List.getElem_mem hi)
    have e8 : failR l n = decide (¬ (l[i]).fails + 1 < 3) := by unfold failR; rw [hp]; simp [List.getElem?_eq_getElem hi]
    rw [e8]
    have hc : Cg x.G w (w.setCell ⟨x.gF, i, none⟩ (.int .i64 (((l[i]).fails : Int) + 1))) := Cg.ofBut (But.set _ _ _) (.inl rfl)
    have hu1 := h.u.setOther (⟨x.gF, i, none⟩ : Addr) (.int .i64 (((l[i]).fails : Int) + 1)) h.ne.symm
    have hk1 := h.k.setOther (⟨x.gF, i, none⟩ : Addr) (.int .i64 (((l[i]).fails : Int) + 1)) h.neFK.symm
    have hf1 := h.f.set i (.int .i64 (((l[i]).fails : Int) + 1))
    have kw : IntKind.i64.wrap (((l[i]).fails : Int) + 1) = ((l[i]).fails : Int) + 1 := by rw [IntKind.wrap_i64]; omega
    by_cases h3 : (l[i]).fails + 1 < 3
    · have k3 : ((l[i]).fails : Int) + 1 < 3 := by omega
      rw [show decide (¬ (l[i]).fails + 1 < 3) = false by simp; omega]
      have hfin : BookAt (w.setCell ⟨x.gF, i, none⟩ (.int .i64 (((l[i]).fails : Int) + 1))) bb x (l.set i (failS now (l[i]))) := by
        rw [show failS now (l[i]) = { l[i] with fails := (l[i]).fails + 1 } by unfold failS; rw [if_pos h3]]
        refine h.set hi (v := { l[i] with fails := (l[i]).fails + 1 }) rfl rfl h3 (by simpa using hf1) ?_ ?_ hc
        · show Row _ _ _ ((tilC l).set i (.int .i64 (l[i]).til))
          rw [set_same (tilC_get hi)]; exact hu1
        · show Row _ _ _ ((lockC l).set i (.bool (l[i]).locked))
          rw [set_same (lockC_get hi)]; exact hk1
      obtain ⟨fi, hfi⟩ : ∃ z, z = (l[i]).fails := ⟨_, rfl⟩
      rw [← hfi] at hf kw k3 hc hfb
      obtain ⟨l', hl'⟩ : ∃ z, z = l.set i (failS now (l[i])) := ⟨_, rfl⟩
      rw [← hl', ← hfi] at hfin
      rw [← hl']
      have HC := Lib.hid hc
      have HFIN := Lib.hid hfin
      obtain ⟨b0, b1, b2, b3⟩ := h.cellsC hc
      clear h hp ha HA hnm hc hfin hu1 hk1 hf1 e8 h3 hl' hfi
      go_enter Tryz.func64, Tryz.ntmps64
      go_wp2_with (go_at_call 39; refine HA2.out.mono ?_; rintro e w1 ⟨rfl, rfl⟩)
      go_ret
      exact ⟨rfl, HFIN.out, HC.out⟩
    · have k3 : ¬ ((l[i]).fails : Int) + 1 < 3 := by omega
      rw [show decide (¬ (l[i]).fails + 1 < 3) = true by simp; omega]
      obtain ⟨v, hv⟩ : ∃ v, IntKind.i64.wrap (now + 20) = v := ⟨_, rfl⟩
      have hvv : now ≤ 9223372036854775787 → v = now + 20 := fun hn => by rw [← hv, IntKind.wrap_i64]; omega
      have HB := Lib.hid (fun w' (hq : Cg x.G w w') => h.cellsC hq)
      have hfin : ∀ (w' : World) (T : Int), T = (if now ≤ 9223372036854775787 then now + 20 else 9223372036854775807) → Row w' x.gF 3 ((failC l).set i (.int .i64 0)) → Row w' x.gU 3 ((tilC l).set i (.int .i64 T)) → Row w' x.gK 4 ((lockC l).set i (.bool true)) → Cg x.G w w' → BookAt w' bb x (l.set i (failS now (l[i]))) := by
        intro w' T hT r1 r2 r3 hcc
        rw [failS_big h3, ← hT]
        exact h.set hi (v := { l[i] with fails := 0, locked := true, til := T }) rfl rfl (by show 0 < 3; omega) r1 r2 r3 hcc
      have hF1 : (w.setCell ⟨x.gF, i, none⟩ (.int .i64 (((l[i]).fails : Int) + 1))).cell? ⟨x.gF, i, none⟩ = some (.int .i64 (((l[i]).fails : Int) + 1)) := by
        have := hf1.cell' i (by rw [List.length_set, failC_length]; exact hi)
        rw [this, List.getElem?_set]
        simp [failC_length, hi]
      have hfl := failC_length l
      have htl := tilC_length l
      have hkl := lockC_length l
      obtain ⟨fC, hfC⟩ : ∃ z, z = failC l := ⟨_, rfl⟩
      obtain ⟨tC, htC⟩ : ∃ z, z = tilC l := ⟨_, rfl⟩
      obtain ⟨kC, hkC⟩ : ∃ z, z = lockC l := ⟨_, rfl⟩
      rw [← hfC] at hf1 hfin hfl
      rw [← htC] at hu1 hfin htl
      rw [← hkC] at hk1 hfin hkl
      obtain ⟨fi, hfi⟩ : ∃ z, z = (l[i]).fails := ⟨_, rfl⟩
      obtain ⟨l', hl'⟩ : ∃ z, z = l.set i (failS now (l[i])) := ⟨_, rfl⟩
      rw [← hl'] at hfin
      rw [← hl']
      rw [← hfi] at hf kw k3 hc hfb hu1 hk1 hf1
      have hi1 : i < fC.length := by omega
      have hi2 : i < tC.length := by omega
      have hi3 : i < kC.length := by omega
      have HNE := Lib.hid h.ne
      have HNK := Lib.hid h.neFK
      have HUK := Lib.hid h.neUK
      have HC := Lib.hid hc
      have HFIN := Lib.hid hfin
      have HF1 := Lib.hid hf1
      have HU1 := Lib.hid hu1
      have HK1 := Lib.hid hk1
      have HVV := Lib.hid hvv
      obtain ⟨b0, b1, b2, b3⟩ := h.cellsC hc
      clear h hp ha HA hnm hc hfin hu1 hk1 hf1 e8 h3 hl' hfi hfC htC hkC hF1 hvv
      go_enter Tryz.func64, Tryz.ntmps64
      go_wp2_with (go_at_call 39; refine HA2.out.mono ?_; rintro e w1 ⟨rfl, rfl⟩)
      apply region_chainG (G := x.G) (chain := [18, 20, 22]) (C := (fun q w' => Row w' x.gF 3 (if q = 0 then fC.set i (.int .i64 ((fi : Int) + 1)) else fC.set i (.int .i64 0)) ∧ Row w' x.gK 4 (if q ≤ 1 then kC else kC.set i (.bool true)) ∧ Row w' x.gU 3 (if q ≤ 2 then tC else tC.set i (.int .i64 v)))) (Φs := (Is _ :: Is _ :: Is _ :: Is _ :: Is _ :: Is _ :: Is _ :: Is _ :: Is _ :: Is _ :: Is _ :: Is _ :: Is _ :: Is _ :: Is _ :: Is _ :: Is _ :: Is _ :: Is _ :: Is _ :: Is _ :: Is _ :: Is _ :: [])) (hm := by kernel_rfl) (hE := by kernel_rfl) (hD := by kernel_rfl) (hup := by kernel_rfl) (hch := by kernel_rfl) (hsize := by kernel_rfl)
      case hC =>
        intro s a b h hp
        exact ⟨h.1.pu hp, h.2.1.pu hp, h.2.2.pu hp⟩
      case hC0 =>
        exact ⟨HF1.out, HK1.out, HU1.out⟩
      case hop =>
        refine ⟨?_, ?_, ?_, ?_, ?_, ?_, ?_, ?_, ?_, ?_, ?_, ?_, ?_, ?_, ?_, ?_, ?_, ?_, ?_, ?_, ?_, ?_, ?_, trivial⟩
        · intro a' w' s hs hp hC hlo hhi he
          rw [if_neg (by decide)]
          clear hlo hhi
          have e0 := hs 0 (by kernel_rfl)
          try simp [Is, Region.binds] at he
          exact op_val rfl (wanted_none rfl) (by first | (go_simp; done) | (go_simp; rfl) | (simp [execOp, Act.eval, go_sem, *]; done) | (simp [execOp, Act.eval, go_sem, *]; rfl)) rfl (Pu.refl _)
        · intro a' w' s hs hp hC hlo hhi he
          rw [if_neg (by decide)]
          clear hlo hhi
          try simp [Is, Region.binds] at he
          exact op_val rfl (wanted_none rfl) (by first | (go_simp; done) | (go_simp; rfl) | (simp [execOp, Act.eval, go_sem, *]; done) | (simp [execOp, Act.eval, go_sem, *]; rfl)) rfl (Pu.refl _)
        · intro a' w' s hs hp hC hlo hhi he
          rw [if_neg (by decide)]
          clear hlo hhi
          try simp [Is, Region.binds] at he
          exact op_val rfl (wanted_none rfl) (by first | (go_simp; done) | (go_simp; rfl) | (simp [execOp, Act.eval, go_sem, *]; done) | (simp [execOp, Act.eval, go_sem, *]; rfl)) rfl (Pu.refl _)
        · intro a' w' s hs hp hC hlo hhi he
          rw [if_neg (by decide)]
          clear hlo hhi
          try simp [Is, Region.binds] at he
          obtain ⟨b0, b1, b2, b3⟩ := HB.out _ (HC.out.trans hp); exact op_val rfl (wanted_none rfl) (by first | (go_simp; done) | (go_simp; rfl)) rfl (Pu.refl _)
        · intro a' w' s hs hp hC hlo hhi he
          rw [if_neg (by decide)]
          clear hlo hhi
          have e7 := hs 7 (by kernel_rfl)
          try simp [Is, Region.binds] at he
          exact op_val rfl (wanted_none rfl) (by first | (go_simp; done) | (go_simp; rfl) | (simp [execOp, Act.eval, go_sem, *]; done) | (simp [execOp, Act.eval, go_sem, *]; rfl)) rfl (Pu.refl _)
        · intro a' w' s hs hp hC hlo hhi he
          rw [if_neg (by decide)]
          clear hlo hhi
          have e0 := hs 0 (by kernel_rfl)
          try simp [Is, Region.binds] at he
          exact op_val rfl (wanted_none rfl) (by first | (go_simp; done) | (go_simp; rfl) | (simp [execOp, Act.eval, go_sem, *]; done) | (simp [execOp, Act.eval, go_sem, *]; rfl)) rfl (Pu.refl _)
        · intro a' w' s hs hp hC hlo hhi he
          rw [if_neg (by decide)]
          clear hlo hhi
          try simp [Is, Region.binds] at he
          exact op_val rfl (wanted_none rfl) (by first | (go_simp; done) | (go_simp; rfl) | (simp [execOp, Act.eval, go_sem, *]; done) | (simp [execOp, Act.eval, go_sem, *]; rfl)) rfl (Pu.refl _)
        · intro a' w' s hs hp hC hlo hhi he
          rw [if_neg (by decide)]
          clear hlo hhi
          try simp [Is, Region.binds] at he
          exact op_val rfl (wanted_none rfl) (by first | (go_simp; done) | (go_simp; rfl) | (simp [execOp, Act.eval, go_sem, *]; done) | (simp [execOp, Act.eval, go_sem, *]; rfl)) rfl (Pu.refl _)
        · intro a' w' s hs hp hC hlo hhi he
          rw [if_neg (by decide)]
          clear hlo hhi
          try simp [Is, Region.binds] at he
          obtain ⟨b0, b1, b2, b3⟩ := HB.out _ (HC.out.trans hp); exact op_val rfl (wanted_none rfl) (by first | (go_simp; done) | (go_simp; rfl)) rfl (Pu.refl _)
        · intro a' w' s hs hp hC hlo hhi he
          rw [if_neg (by decide)]
          clear hlo hhi
          have e7 := hs 7 (by kernel_rfl)
          try simp [Is, Region.binds] at he
          exact op_val rfl (wanted_none rfl) (by first | (go_simp; done) | (go_simp; rfl) | (simp [execOp, Act.eval, go_sem, *]; done) | (simp [execOp, Act.eval, go_sem, *]; rfl)) rfl (Pu.refl _)
        · intro a' w' s hs hp hC hlo hhi he
          rw [if_neg (by decide)]
          clear hlo hhi
          have e0 := hs 0 (by kernel_rfl)
          try simp [Is, Region.binds] at he
          exact op_val rfl (wanted_none rfl) (by first | (go_simp; done) | (go_simp; rfl) | (simp [execOp, Act.eval, go_sem, *]; done) | (simp [execOp, Act.eval, go_sem, *]; rfl)) rfl (Pu.refl _)
        · intro a' w' s hs hp hC hlo hhi he
          rw [if_neg (by decide)]
          clear hlo hhi
          try simp [Is, Region.binds] at he
          exact op_val rfl (wanted_none rfl) (by first | (go_simp; done) | (go_simp; rfl) | (simp [execOp, Act.eval, go_sem, *]; done) | (simp [execOp, Act.eval, go_sem, *]; rfl)) rfl (Pu.refl _)
        · intro a' w' s hs hp hC hlo hhi he
          rw [if_neg (by decide)]
          clear hlo hhi
          try simp [Is, Region.binds] at he
          exact op_val rfl (wanted_none rfl) (by first | (go_simp; done) | (go_simp; rfl) | (simp [execOp, Act.eval, go_sem, *]; done) | (simp [execOp, Act.eval, go_sem, *]; rfl)) rfl (Pu.refl _)
        · intro a' w' s hs hp hC hlo hhi he
          rw [if_neg (by decide)]
          clear hlo hhi
          try simp [Is, Region.binds] at he
          obtain ⟨b0, b1, b2, b3⟩ := HB.out _ (HC.out.trans hp); exact op_val rfl (wanted_none rfl) (by first | (go_simp; done) | (go_simp; rfl)) rfl (Pu.refl _)
        · intro a' w' s hs hp hC hlo hhi he
          rw [if_neg (by decide)]
          clear hlo hhi
          have e7 := hs 7 (by kernel_rfl)
          try simp [Is, Region.binds] at he
          exact op_val rfl (wanted_none rfl) (by first | (go_simp; done) | (go_simp; rfl) | (simp [execOp, Act.eval, go_sem, *]; done) | (simp [execOp, Act.eval, go_sem, *]; rfl)) rfl (Pu.refl _)
        · intro a' w' s hs hp hC hlo hhi he
          rw [if_neg (by decide)]
          clear hlo hhi
          have e2 := hs 2 (by kernel_rfl)
          try simp [Is, Region.binds] at he
          exact op_val rfl (wanted_none rfl) (by first | (go_simp; done) | (go_simp; rfl) | (simp [execOp, Act.eval, go_sem, *]; done) | (simp [execOp, Act.eval, go_sem, *]; rfl)) rfl (Pu.refl _)
        · intro a' w' s hs hp hC hlo hhi he
          rw [if_neg (by decide)]
          clear hlo hhi
          try simp [Is, Region.binds] at he
          exact op_val rfl (wanted_none rfl) (by first | (go_simp; done) | (go_simp; rfl) | (simp [execOp, Act.eval, go_sem, *]; done) | (simp [execOp, Act.eval, go_sem, *]; rfl)) rfl (Pu.refl _)
        · intro a' w' s hs hp hC hlo hhi he
          rw [if_neg (by decide)]
          clear hlo hhi
          try simp [Is, Region.binds] at he
          exact op_val rfl (wanted_none rfl) (by first | (go_simp; done) | (go_simp; rfl) | (simp [execOp, Act.eval, go_sem, *]; done) | (simp [execOp, Act.eval, go_sem, *]; rfl)) rfl (Pu.refl _)
        · intro a' w' s hs hp hC hlo hhi he
          rw [if_pos (by decide)]; intro hsc; clear hsc
          have hs0 : s = 0 := Nat.le_antisymm (Nat.le_trans hhi (Nat.le_of_eq (by kernel_rfl))) (Nat.le_trans (Nat.le_of_eq (by kernel_rfl)) hlo)
          subst hs0
          clear hlo hhi
          try simp [Is, Region.binds] at he
          simp at hC; obtain ⟨r1, r2, r3⟩ := hC; obtain ⟨u9, hc⟩ : ∃ u, w'.cell? ⟨x.gF, i, none⟩ = some u := ⟨_, r1.cell i (by rw [List.length_set]; omega)⟩; have hf := r1.frozen i (by rw [List.length_set]; omega); have h6 := r1.set i (.int .i64 0); rw [List.set_set] at h6; exact op_doneG rfl (wanted_none rfl) (by first | (go_simp; done) | (go_simp; rfl)) rfl ⟨by simpa using h6, by simpa using r2.setOther (⟨x.gF, i, none⟩ : Addr) _ HNK.out.symm, by simpa using r3.setOther (⟨x.gF, i, none⟩ : Addr) _ HNE.out.symm⟩ (Cg.ofBut (But.set _ _ _) (.inl rfl))
        · intro a' w' s hs hp hC hlo hhi he
          rw [if_neg (by decide)]
          clear hlo hhi
          try simp [Is, Region.binds] at he
          exact op_val rfl (wanted_none rfl) (by first | (go_simp; done) | (go_simp; rfl) | (simp [execOp, Act.eval, go_sem, *]; done) | (simp [execOp, Act.eval, go_sem, *]; rfl)) rfl (Pu.refl _)
        · intro a' w' s hs hp hC hlo hhi he
          rw [if_pos (by decide)]; intro hsc; clear hsc
          have hs0 : s = 1 := Nat.le_antisymm (Nat.le_trans hhi (Nat.le_of_eq (by kernel_rfl))) (Nat.le_trans (Nat.le_of_eq (by kernel_rfl)) hlo)
          subst hs0
          clear hlo hhi
          try simp [Is, Region.binds] at he
          simp at hC; obtain ⟨r1, r2, r3⟩ := hC; obtain ⟨u9, hc⟩ : ∃ u, w'.cell? ⟨x.gK, i, none⟩ = some u := ⟨_, r2.cell i (by omega)⟩; have hf := r2.frozen i (by omega); have h6 := r2.set i (.bool true); exact op_doneG rfl (wanted_none rfl) (by first | (go_simp; done) | (go_simp; rfl)) rfl ⟨by simpa using r1.setOther (⟨x.gK, i, none⟩ : Addr) _ HNK.out, by simpa using h6, by simpa using r3.setOther (⟨x.gK, i, none⟩ : Addr) _ HUK.out⟩ (Cg.ofBut (But.set _ _ _) (.inr (.inr rfl)))
        · intro a' w' s hs hp hC hlo hhi he
          rw [if_neg (by decide)]
          clear hlo hhi
          try simp [Is, Region.binds] at he
          exact op_val rfl (wanted_none rfl) (by first | (go_simp; done) | (go_simp; rfl) | (simp [execOp, Act.eval, go_sem, *]; done) | (simp [execOp, Act.eval, go_sem, *]; rfl)) rfl (Pu.refl _)
        · intro a' w' s hs hp hC hlo hhi he
          rw [if_pos (by decide)]; intro hsc; clear hsc
          have hs0 : s = 2 := Nat.le_antisymm (Nat.le_trans hhi (Nat.le_of_eq (by kernel_rfl))) (Nat.le_trans (Nat.le_of_eq (by kernel_rfl)) hlo)
          subst hs0
          clear hlo hhi
          try simp [Is, Region.binds] at he
          simp at hC; obtain ⟨r1, r2, r3⟩ := hC; obtain ⟨u9, hc⟩ : ∃ u, w'.cell? ⟨x.gU, i, none⟩ = some u := ⟨_, r3.cell i (by omega)⟩; have hf := r3.frozen i (by omega); have h6 := r3.set i (.int .i64 v); exact op_doneG rfl (wanted_none rfl) (by first | (go_simp; done) | (go_simp; rfl)) rfl ⟨by simpa using r1.setOther (⟨x.gU, i, none⟩ : Addr) _ HNE.out, by simpa using r2.setOther (⟨x.gU, i, none⟩ : Addr) _ HUK.out.symm, by simpa using h6⟩ (Cg.ofBut (But.set _ _ _) (.inr (.inl rfl)))
      case hend =>
        intro a' w' hdef hsz hs hp hC hall
        obtain ⟨r0, r1, r2, r3, r4, r5, r6, r7, r8, r9, r10, r11, r12, r13, r14, r15, r16, r17, r18, r19, r20, r21, r22, -⟩ := hall
        have hA := agree_done (agree_step (agree_step (agree_step (agree_step (agree_step (agree_step (agree_step (agree_step (agree_step (agree_step (agree_step (agree_step (agree_step (agree_step (agree_step (agree_step (agree_step (agree_step (agree_step (agree_step (agree_init [30, 31, 32, 33, 34, 35, 36, 37, 38, 39, 40, 41, 42, 43, 44, 45, 46, 47, 48, 49] hsz hs (by kernel_rfl)) r0) r1) r2) r3) r4) r5) r6) r7) r8) r9) r10) r11) r12) r13) r14) r15) r16) r17) r19) r21)
        have ha := act_of hA hdef
        rw [ha]
        clear ha hA hs hsz hdef r0 r1 r2 r3 r4 r5 r6 r7 r8 r9 r10 r11 r12 r13 r14 r15 r16 r17 r18 r19 r20 r21 r22 
        (try simp only [List.setIfInBounds_toArray])
        (try dsimp only [List.set_cons_zero, List.set_cons_succ])
        (try simp only [Exit.then])
        simp at hC
        obtain ⟨r1, r2, r3⟩ := hC
        have hcc := HC.out.trans hp
        obtain ⟨b0, b1, b2, b3⟩ := HB.out _ hcc
        have hcu := r3.cell' i (by rw [List.length_set]; omega)
        rw [List.getElem?_set, if_pos rfl, if_pos hi2] at hcu
        have hzu := r3.frozen i (by rw [List.length_set]; omega)
        by_cases hn : now ≤ 9223372036854775787
        · have q1 : ¬ (9223372036854775787 : Int) < now := by omega
          go_wp2_with fail
          go_ret
          exact ⟨rfl, HFIN.out _ v (by rw [if_pos hn]; exact HVV.out hn) r1 r3 r2 hcc, hcc⟩
        · have q1 : (9223372036854775787 : Int) < now := by omega
          have h6 := r3.set i (.int .i64 9223372036854775807)
          rw [List.set_set] at h6
          have h7 := r1.setOther (⟨x.gU, i, none⟩ : Addr) (.int .i64 9223372036854775807) HNE.out
          have h8 := r2.setOther (⟨x.gU, i, none⟩ : Addr) (.int .i64 9223372036854775807) HUK.out.symm
          have hc2 : Cg x.G w1 (w'.setCell ⟨x.gU, i, none⟩ (.int .i64 9223372036854775807)) := hcc.trans (Cg.ofBut (But.set _ _ _) (.inr (.inl rfl)))
          have HFF := Lib.hid (HFIN.out _ 9223372036854775807 (by rw [if_neg hn]) h7 h6 h8 hc2)
          have HC2 := Lib.hid hc2
          clear h6 h7 h8 hc2 hn r1 r2 r3
          go_wp2_with fail
          go_ret
          exact ⟨rfl, HFF.out, HC2.out⟩
end
end Go.Proofs.YtlbdbmnkjljohaaGreat
