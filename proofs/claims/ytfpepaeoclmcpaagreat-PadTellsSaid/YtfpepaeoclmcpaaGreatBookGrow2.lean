/- Package escutcheonbook: the lists of numbers are grown. -/
import Derived.Test.YtfpepaeoclmcpaaGreatBookGs
set_option linter.unusedSimpArgs false
set_option linter.unusedVariables false
namespace Go.Proofs.YtfpepaeoclmcpaaGreat
open Go.RowKit Go.Esc
theorem infoL : (Tryz.prog.info? 34).map (fun i => (i.zero, i.size, i.bytes)) = some (some (.slice none 0 0), 1, 24) := by kernel_rfl
/-- Marked lists of numbers, as values. -/
def mkI (i n : Nat) : List Value := ints (marksL i 0 n)
theorem mkI_length (i n : Nat) : (mkI i n).length = n := by simp [mkI, ints, marksL_length]
theorem mkI_append (i n m : Nat) : mkI i n ++ ints (marksL i n m) = mkI i (n + m) := by
  rw [mkI, mkI, ← marksL_append i 0 n m, Nat.zero_add, ints, ints, ints, List.map_append]
theorem ints_one (l : List Int) : ∀ u ∈ ints l, u.oneCell' = true := by simp [ints, Value.oneCell']
set_option maxRecDepth 100000 in
set_option maxHeartbeats 3200000 in
theorem growInts (G : Nat → Prop) (b : Nat) (e : TypeId) (xs : List Value) (v2 : Value) (vs : List Value) (n : Nat → Nat) (w : World) (hr : Row w b e xs) (h2 : xs[2]? = some v2) (s2 : SL w v2 vs)
    (hGb : ¬ G b) (hG2 : ∀ g, v2.ownBlock = some g → ¬ G g) (hF : Fix G w vs)
    (hl0 : ∀ j, j < vs.length → 0 < n j ∧ n j ≤ 900) (hO : ∀ (j : Nat) (v : Value), vs[j]? = some v → w.ownsRow 0 3 1 v (n j) (mkI j (n j))) :
    Calls Tryz.prog 38 #[.pointer (some ⟨b, 0, none⟩)] w fun e w' => ∃ vo us, e = .returned vo ∧ us.length = vs.length ∧ Gs G 3 34 mkI n w w' vs vs.length vs.length vo us := by
  obtain ⟨i0, hii, hz0, hz1, hz2⟩ := info_parts infoI
  obtain ⟨i1, hii1, hy0, hy1, hy2⟩ := info_parts infoL
  have hx2 : 2 < xs.length := (List.getElem?_eq_some_iff.1 h2).1
  have hB2 : ∀ w' : World, Cg G w w' → w'.cell? ⟨b, 2, none⟩ = some v2 := fun w' hp => by rw [hp.cell hr.lt hGb, hr.cell 2 hx2, ← List.getElem?_eq_getElem, h2]
  obtain ⟨q2, c2, rfl, hm, hq2, hcc⟩ := s2
  have hGq : ¬ G q2 := hG2 q2 rfl
  have hC2 : ∀ w' : World, Cg G w w' → ∀ j u, vs[j]? = some u → w'.cell? ⟨q2, j, none⟩ = some u := fun w' hp j u hj => by rw [hp.cell hq2 hGq]; exact hcc j u hj
  have HB2 := Lib.hid hB2
  have HC2 := Lib.hid hC2
  have HF := Lib.hid hF
  have HL0 := Lib.hid hl0
  have hg0 : Gs G 3 34 mkI n w w vs 0 0 (.slice none 0 0) [] := ⟨Cg.refl _ _, World.ownsRow_nil _ _ _ _, fun j v _ hv => hO j v hv, fun j v hj => (by omega), fun j u hj => (by simp at hj)⟩
  clear hB2 hC2 hF hl0 hcc h2 hx2 hr hG2 hO
  go_enter Tryz.func38, Tryz.ntmps38
  go_wp2_with fail
  go_loopw [3, 4, 5, 6] (fun o x _ _ wr => ∃ (i : Nat) (us : List Value), i ≤ vs.length ∧ us.length = i ∧ x = .int .i64 i ∧ Gs G 3 34 mkI n w wr vs i i o us) (fun _ x _ _ _ => vs.length - (intOf x).toNat)
  case atStart => exact ⟨0, [], Nat.zero_le _, rfl, rfl, hg0⟩
  case round =>
    clear hg0
    obtain ⟨i, us, hi, hul, rfl, hgs⟩ := hrel
    have hb2 := HB2.out wr hgs.cg
    by_cases hlt : i < vs.length
    · have hi1 : (i : Int) < vs.length := by omega
      have hi0 : (0 : Int) ≤ i := by omega
      obtain ⟨v, hv⟩ : ∃ v, vs[i]? = some v := ⟨_, List.getElem?_eq_getElem hlt⟩
      have hc2 := HC2.out wr hgs.cg i v hv
      obtain ⟨l0, l1⟩ := HL0.out i hlt
      obtain ⟨L, hL⟩ : ∃ L, L = n i := ⟨_, rfl⟩
      have hov := hgs.todo i v (Nat.le_refl _) hv
      have hnew := hgs.new
      have hle := hgs.own.lt
      have hgsz := hgs.cg.size
      rw [← hL] at hov l0 l1
      have hHL := HL.own hov (mkI_length _ _) l0
      obtain ⟨g, cap, rfl, -, hg⟩ := own_form hov l0
      have hgb : g < w.heap.size := HF.out.below _ (HF.out.of i _ g hv rfl)
      have hgs1 := hgs.next
      have hgu : ∀ (j : Nat) (u : Value), us[j]? = some u → u.ownBlock ≠ some g := fun j u hj e => by
        obtain ⟨-, -, q, hq, h1 | ⟨v', hv', h2⟩⟩ := hnew j u hj
        · rw [hq] at e; cases e; omega
        · have hjl := (List.getElem?_eq_some_iff.1 hj).1
          rw [hq] at e; cases e
          rcases HF.out.apart j i v' _ (by omega) hv' hv with h3 | h3
          · rw [h3] at h2; cases h2
          · exact h3 h2
      have hgo : u3.ownBlock ≠ some g := fun e => by have := (hle g e).1; omega
      have HV := Lib.hid hv
      have HLE := Lib.hid hL
      clear hv hL hnew hle hgs
      go_wp2_with fail
      go_loopw [5, 6] (fun c x wq => ∃ (t q cp : Nat), t ≤ 12 ∧ x = .int .i64 (t : Int) ∧ c = .slice (some ⟨q, 0, none⟩) (L + t) cp ∧ Gs G 3 34 mkI n w wq vs i (i+1) u3 us ∧ wq.ownsRow 0 3 1 (.slice (some ⟨q, 0, none⟩) (L + t) cp) (L + t) (mkI i (L + t)) ∧ HL wq (.slice (some ⟨g, 0, none⟩) L cap) (mkI i L) ∧ (w.heap.size ≤ q ∨ q = g) ∧ u3.ownBlock ≠ some q ∧ ∀ (j : Nat) (u : Value), us[j]? = some u → u.ownBlock ≠ some q) (fun _ x _ => 12 - (intOf x).toNat)
      case atStart => exact ⟨0, g, cap, by omega, rfl, rfl, hgs1, hov, hHL, .inr rfl, hgo, hgu⟩
      case round =>
        clear hgs1 hov hHL hgo hgu hb2 hc2
        obtain ⟨t, q, cp, ht, rfl, rfl, hgs, hown, hHL, hq, hqo, hqu⟩ := hrel
        by_cases ht12 : t < 12
        · have ht1 : (t : Int) < 12 := by omega
          obtain ⟨M, hM⟩ : ∃ M, M = L + t := ⟨_, rfl⟩
          have hMk := fun w' => markInts i M 1 (by omega) (by omega) (by omega) w'
          rw [← hM] at hown ⊢
          have HMK := Lib.hid hMk
          have HM := Lib.hid hM
          clear hMk hM
          go_wp2_with (first
            | (go_at_call 67; refine (HMK.out _).mono ?_; rintro e w1 ⟨mv, rfl, hmo, hp1⟩; obtain ⟨gm, capm, rfl, hgm1, hgm2⟩ := own_form hmo (by omega))
            | (at_builtin; refine wpList_append_keep _ rfl _ _ 34 rfl 0 3 i0 (.int .i64 0) 8 Tryz.underlying34 hii hz0 hz1 hz2 (by decide) q M cp _ rfl (own_puQ hown hp1) (mkI_length _ _) ⟨gm, 0, none⟩ 1 capm (ints (marksL i M 1)) rfl (by simp [ints, marksL_length]) (HL.own hmo (by simp [ints, marksL_length]) (by omega)).cells (ints_one _) (by have := HM.out; unfold maxLen; omega) (by have := HM.out; omega) (Nat.zero_le _) ?_ (by have := HM.out; omega); intro g' cap' w2 hown2 hgrow2 hkeep2 hat2))
          go_roundw
          case rel =>
            have hMe := HM.out
            have hLe := HLE.out
            rw [mkI_append] at hown2
            refine ⟨t + 1, g', cap', by omega, by go_num, ?_, (hgs.pu hp1).grow HF.out HV.out hgrow2 ?_ hqo hqu, ?_, (hHL.pu hp1).keep hgrow2 hkeep2 (by rw [mkI_length]; omega), ?_, ?_, ?_⟩
            · rw [hMe, Nat.add_assoc]
            · rcases hq with h | h
              · exact .inl h
              · exact .inr (by rw [h]; rfl)
            · rw [hMe] at hown2; exact hown2
            · rcases hat2 with h | h
              · rw [h]; exact hq
              · left; have := hgs.cg.size; have := hp1.size; omega
            · intro e'
              rcases hat2 with h | h
              · rw [h] at e'; exact hqo e'
              · have := (hgs.own.lt g' e').2; have := hp1.size; omega
            · intro j u hj e'
              rcases hat2 with h | h
              · rw [h] at e'; exact hqu j u hj e'
              · have := (hgs.new j u hj).1.lt e'; have := hp1.size; omega
          case measure => simp [intOf]; omega
        · obtain rfl : t = 12 := by omega
          obtain ⟨M, hM⟩ : ∃ M, M = L + 12 := ⟨_, rfl⟩
          have hMk := fun w' => markInts i M 60 (by omega) (by omega) (by omega) w'
          rw [← hM] at hown ⊢
          have HMK := Lib.hid hMk
          have HM := Lib.hid hM
          clear hMk hM
          go_wp2_with (first
            | (go_at_call 67; refine (HMK.out _).mono ?_; rintro e w1 ⟨mv, rfl, hmo, hp1⟩; obtain ⟨gm, capm, rfl, hgm1, hgm2⟩ := own_form hmo (by omega))
            | (at_builtin; refine wpList_append_keep _ rfl _ _ 34 rfl 0 3 i0 (.int .i64 0) 8 Tryz.underlying34 hii hz0 hz1 hz2 (by decide) q M cp _ rfl (own_puQ hown hp1) (mkI_length _ _) ⟨gm, 0, none⟩ 60 capm (ints (marksL i M 60)) rfl (by simp [ints, marksL_length]) (HL.own hmo (by simp [ints, marksL_length]) (by omega)).cells (ints_one _) (by have := HM.out; unfold maxLen; omega) (by have := HM.out; omega) (Nat.zero_le _) ?_ (by have := HM.out; omega); intro g' cap' w2 hown2 hgrow2 hkeep2 hat2
               have hq2' : w.heap.size ≤ q ∨ (Value.slice (some ⟨g, 0, none⟩) L cap).ownBlock = some q := (by rcases hq with h | h; exact .inl h; exact .inr (by rw [h]; rfl))
               have hgs2 := (hgs.pu hp1).grow HF.out HV.out hgrow2 hq2' hqo hqu
               have hHL2 := (hHL.pu hp1).keep hgrow2 hkeep2 (by have := HM.out; rw [mkI_length]; omega))
            | (at_builtin; refine wpList_append_own_at _ rfl _ _ 25 rfl w.heap.size 34 i1 (.slice none 0 0) 1 24 Tryz.underlying25 hii1 hy0 hy1 hy2 rfl (by decide) u3 us.length _ rfl (hgs2.own.alloc _) ⟨w2.heap.size, 0, none⟩ 1 1 [.slice (some ⟨g', 0, none⟩) (M + 60) cap'] rfl rfl (cell_one_new' _ _ _) (by simp [Value.oneCell']) (by unfold maxLen; omega) (by omega) (by have := hgs2.cg.size; simp; omega) ?_; intro v' w3 hown3 hgrow3 _ hat3))
          go_roundw
          case rel =>
            have hMe := HM.out
            have hLe := HLE.out
            have hal : Pu w2 (w2.alloc (.cells #[.slice (some ⟨g', 0, none⟩) (M + 60) cap'] 34)) := (Pu.refl w2).alloc _
            rw [mkI_append] at hown2
            have hq3 : w.heap.size ≤ g' ∨ (Value.slice (some ⟨g, 0, none⟩) L cap).ownBlock = some g' := by
              rcases hat2 with h | h
              · rw [h]; exact hq2'
              · left; have := hgs.cg.size; have := hp1.size; omega
            have hgn : u3.ownBlock ≠ some g' := by
              intro e'
              rcases hat2 with h | h
              · rw [h] at e'; exact hqo e'
              · have := (hgs.own.lt g' e').2; have := hp1.size; omega
            have hu : HL w2 (.slice (some ⟨g', 0, none⟩) (M + 60) cap') (mkI i (n i + 72)) := by
              have h60 : M + 60 = n i + 72 := by omega
              rw [← h60]
              exact HL.own hown2 (mkI_length _ _) (by omega)
            exact ⟨i + 1, us ++ [.slice (some ⟨g', 0, none⟩) (M + 60) cap'], by omega, by simp [hul], by go_num, (hgs2.pu hal).push HF.out hul HV.out (by rw [← hLe]; exact hHL2.pu hal) (hu.pu hal) rfl hq3 hgn hown3 hgrow3 hat3⟩
          case measure => simp [intOf]; omega
    · obtain rfl : i = vs.length := by omega
      have hlt' : decide ((vs.length : Int) < vs.length) = false := by simp
      go_wp2_with fail
      go_ret
      exact ⟨_, us, rfl, hul, hgs⟩
end Go.Proofs.YtfpepaeoclmcpaaGreat
