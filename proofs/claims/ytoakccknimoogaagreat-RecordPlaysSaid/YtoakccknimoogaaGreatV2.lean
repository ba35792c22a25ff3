/- Package escutcheonbook: the lists of texts are grown. Package escutcheonbook: of the kinds of which nothing was kept. Printed by program (booknil.py). Package escutcheonbook: one more list of texts is kept. Package escutcheonbook: one more list of texts is kept: the walk. -/
import Derived.Test.YtoakccknimoogaaGreatV1
set_option linter.unusedSimpArgs false
set_option linter.unusedVariables false
set_option linter.unusedSimpArgs false
set_option linter.unusedVariables false
namespace Go.Proofs.YtoakccknimoogaaGreat
open Go.RowKit Go.Esc
theorem infoLT : (Tryz.prog.info? 31).map (fun i => (i.zero, i.size, i.bytes)) = some (some (.slice none 0 0), 1, 24) := by kernel_rfl
/-- Marked lists of texts, as values. -/
def mkT (i n : Nat) : List Value := txs (marksT i 0 n)
theorem mkT_length (i n : Nat) : (mkT i n).length = n := by simp [mkT, txs, marksT_length]
theorem mkT_append (i n m : Nat) : mkT i n ++ txs (marksT i n m) = mkT i (n + m) := by
 rw [mkT, mkT, ← marksT_append i 0 n m, Nat.zero_add, txs, txs, txs, List.map_append]
theorem txs_one (l : List Bs) : ∀ u ∈ txs l, u.oneCell' = true := by simp [txs, Value.oneCell', S]
/-- Where a grown list may lie. -/
def Rq (w0 : World) (v out : Value) (us : List Value) (c : Value) : Prop := ∀ q, c.ownBlock = some q → (w0.heap.size ≤ q ∨ v.ownBlock = some q) ∧ out.ownBlock ≠ some q ∧ ∀ (j : Nat) (u : Value), us[j]? = some u → u.ownBlock ≠ some q
theorem Rq.next {G : Nat → Prop} {E T : TypeId} {mk : Nat → Nat → List Value} {n : Nat → Nat} {w0 w : World} {vs : List Value} {i k : Nat} {out : Value} {us : List Value} (h : Gs G E T mk n w0 w vs i k out us) {v c c' : Value} (hr : Rq w0 v out us c) (hat : ∀ q, c'.ownBlock = some q → c.ownBlock = some q ∨ w.heap.size ≤ q) : Rq w0 v out us c' := fun q hq => by
 rcases hat q hq with h1 | h1
 · exact hr q h1
 · refine ⟨.inl (Nat.le_trans h.cg.size h1), fun e => ?_, fun j u hj e => ?_⟩
   · have := (h.own.lt q e).2; omega
   · have := (h.new j u hj).1.lt e; omega
set_option maxRecDepth 100000 in
set_option maxHeartbeats 3200000 in
theorem growTextsK (G : Nat → Prop) (b : Nat) (e : TypeId) (xs : List Value) (v2 : Value) (vs : List Value) (n : Nat → Nat) (w : World) (hr : Row w b e xs) (h2 : xs[0]? = some v2) (s2 : SL w v2 vs)
 (hGb : ¬ G b) (hG2 : ∀ g, v2.ownBlock = some g → ¬ G g) (hF : Fix G w vs)
 (hl0 : ∀ j, j < vs.length → n j ≤ 900) (hO : ∀ (j : Nat) (v : Value), vs[j]? = some v → w.ownsRow 0 9 1 v (n j) (mkT j (n j))) :
 Calls Tryz.prog 53 #[.pointer (some ⟨b, 0, none⟩)] w fun e w' => ∃ vo us, e = .returned vo ∧ us.length = vs.length ∧ Gs G 9 31 mkT n w w' vs vs.length vs.length vo us := by
 obtain ⟨i0, hii, hz0, hz1, hz2⟩ := info_parts infoT
 obtain ⟨i1, hii1, hy0, hy1, hy2⟩ := info_parts infoLT
 have hx2 : 0 < xs.length := (List.getElem?_eq_some_iff.1 h2).1
 have hB2 : ∀ w' : World, Cg G w w' → w'.cell? ⟨b, 0, none⟩ = some v2 := fun w' hp => by rw [hp.cell hr.lt hGb, hr.cell 0 hx2, ← List.getElem?_eq_getElem, h2]
 obtain ⟨q2, c2, rfl, hm, hq2, hcc⟩ := s2
 have hGq : ¬ G q2 := hG2 q2 rfl
 have hC2 : ∀ w' : World, Cg G w w' → ∀ j u, vs[j]? = some u → w'.cell? ⟨q2, j, none⟩ = some u := fun w' hp j u hj => by rw [hp.cell hq2 hGq]; exact hcc j u hj
 have HB2 := Lib.hid hB2
 have HC2 := Lib.hid hC2
 have HF := Lib.hid hF
 have HL0 := Lib.hid hl0
 have hg0 : Gs G 9 31 mkT n w w vs 0 0 (.slice none 0 0) [] := ⟨Cg.refl _ _, World.ownsRow_nil _ _ _ _, fun j v _ hv => hO j v hv, fun j v hj => (by omega), fun j u hj => (by simp at hj)⟩
 clear hB2 hC2 hF hl0 hcc h2 hx2 hr hG2 hO
 go_enter Tryz.func53, Tryz.ntmps53
 go_wp2_with fail
 go_loopw [3, 4, 5, 6] (fun o x _ _ wr => ∃ (i : Nat) (us : List Value), i ≤ vs.length ∧ us.length = i ∧ x = .int .i64 i ∧ Gs G 9 31 mkT n w wr vs i i o us) (fun _ x _ _ _ => vs.length - (intOf x).toNat)
 case atStart => exact ⟨0, [], Nat.zero_le _, rfl, rfl, hg0⟩
 case round =>
  clear hg0
  obtain ⟨i, us, hi, hul, rfl, hgs⟩ := hrel
  have hb2 := HB2.out wr hgs.cg
  by_cases hlt : i < vs.length
  · have hi1 : (i : Int) < vs.length := by omega
    have hi0 : (0 : Int) ≤ i := by omega
    obtain ⟨v, hv⟩ : ∃ v, vs[i]? = some v := ⟨_, List.getElem?_eq_getElem hlt⟩
    have hc2 := HC2.out wr hgs.cg i v hv
    have l1 := HL0.out i hlt
    obtain ⟨L, hL⟩ : ∃ L, L = n i := ⟨_, rfl⟩
    have hov := hgs.todo i v (Nat.le_refl _) hv
    rw [← hL] at hov l1
    have hHL := HL.own hov (mkT_length _ _)
    have hRq : Rq w v u3 us v := fun q hq => by
     have hGq := HF.out.of i v q hv hq
     have hqb := HF.out.below _ hGq
     refine ⟨.inr hq, fun e => ?_, fun j u hj e => ?_⟩
     · have := (hgs.own.lt q e).1; omega
     · obtain ⟨-, -, q', hq', h1 | ⟨v', hv', h2⟩⟩ := hgs.new j u hj
       · rw [hq'] at e; cases e; omega
       · have hjl := (List.getElem?_eq_some_iff.1 hj).1
         rw [hq'] at e; cases e
         rcases HF.out.apart j i v' _ (by omega) hv' hv with h3 | h3
         · rw [h3] at h2; cases h2
         · exact h3 (by rw [h2, hq])
    obtain ⟨av, cap, rfl, -⟩ := own_slice hov
    have hgs1 := hgs.next
    have HV := Lib.hid hv
    have HLE := Lib.hid hL
    clear hv hL hgs
    go_wp2_with fail
    go_loopw [5, 6] (fun c x wq => ∃ (t : Nat), t ≤ 12 ∧ x = .int .i64 (t : Int) ∧ Gs G 9 31 mkT n w wq vs i (i+1) u3 us ∧ wq.ownsRow 0 9 1 c (L + t) (mkT i (L + t)) ∧ HL wq (.slice av L cap) (mkT i L) ∧ Rq w (.slice av L cap) u3 us c) (fun _ x _ => 12 - (intOf x).toNat)
    case atStart => exact ⟨0, by omega, rfl, hgs1, hov, hHL, hRq⟩
    case round =>
     clear hgs1 hov hHL hRq hb2 hc2
     obtain ⟨t, ht, rfl, hgs, hown, hHL, hRq⟩ := hrel
     by_cases ht12 : t < 12
     · have ht1 : (t : Int) < 12 := by omega
       obtain ⟨M, hM⟩ : ∃ M, M = L + t := ⟨_, rfl⟩
       have hMk := fun w' => markTexts i M 1 (by omega) (by omega) (by omega) w'
       rw [← hM] at hown
       by_cases hM0 : 0 < M
       · obtain ⟨q, cp, rfl, -, -⟩ := own_form hown hM0
         have HMK := Lib.hid hMk
         have HM := Lib.hid hM
         clear hMk hM
         go_wp2_with (first
          | (go_at_call 98; refine (HMK.out _).mono ?_; rintro e w1 ⟨mv, rfl, hmo, hp1⟩; obtain ⟨gm, capm, rfl, hgm1, hgm2⟩ := own_form hmo (by omega))
          | (at_builtin; refine wpList_append_keep _ rfl _ _ 31 rfl 0 9 i0 (.string ⟨#[]⟩) 16 Tryz.underlying31 hii hz0 hz1 hz2 (by decide) q M cp _ rfl (own_puQ hown hp1) (mkT_length _ _) ⟨gm, 0, none⟩ 1 capm (txs (marksT i M 1)) rfl (by simp [txs, marksT_length]) (HL.own hmo (by simp [txs, marksT_length])).cells (txs_one _) (by have := HM.out; unfold maxLen; omega) (by have := HM.out; omega) (Nat.zero_le _) ?_ hM0; intro g' cap' w2 hown2 hgrow2 hkeep2 hat2))
         go_roundw
         case rel =>
          have hMe := HM.out
          rw [mkT_append] at hown2
          have hgs1 := hgs.pu hp1
          refine ⟨t + 1, by omega, by go_num, hgs1.grow HF.out HV.out hgrow2 (fun q' e => (hRq q' (by cases e; rfl)).1) (fun q' e => (hRq q' (by cases e; rfl)).2.1) (fun q' e => (hRq q' (by cases e; rfl)).2.2), ?_, (hHL.pu hp1).keep hgrow2 hkeep2 (by rw [mkT_length]; omega), hRq.next hgs1 (fun q' e => ?_)⟩
          · rw [show L + (t + 1) = M + 1 by omega]; exact hown2
          · have e' : g' = q' := by simpa [Value.ownBlock] using e
            rcases hat2 with h | h
            · left; rw [← e', h]; rfl
            · right; omega
         case measure => simp [intOf]; omega
       · obtain rfl : M = 0 := by omega
         have hL0 : L = 0 := by omega
         have ht0 : t = 0 := by omega
         subst ht0
         obtain ⟨ca, cc, rfl, -⟩ := own_slice hown
         have HMK := Lib.hid hMk
         have HLZ := Lib.hid hL0
         have HM := Lib.hid hM
         clear hMk hM hL0
         go_wp2_with (first
          | (go_at_call 98; refine (HMK.out _).mono ?_; rintro e w1 ⟨mv, rfl, hmo, hp1⟩; obtain ⟨gm, capm, rfl, hgm1, hgm2⟩ := own_form hmo (by omega))
          | (at_builtin; refine wpList_append_own_at _ rfl _ _ 31 rfl 0 9 i0 (.string ⟨#[]⟩) 1 16 Tryz.underlying31 hii hz0 hz1 hz2 rfl (by decide) (.slice ca 0 cc) 0 _ rfl (own_puQ hown hp1) ⟨gm, 0, none⟩ 1 capm (txs (marksT i 0 1)) rfl (by simp [txs, marksT_length]) (HL.own hmo (by simp [txs, marksT_length])).cells (txs_one _) (by unfold maxLen; omega) (by omega) (Nat.zero_le _) ?_; intro v' w2 hown2 hgrow2 _ hat2))
         go_roundw
         case rel =>
          have hLz := HLZ.out
          rw [mkT_append] at hown2
          have hgs1 := hgs.pu hp1
          refine ⟨1, by omega, by first | go_num | rfl, hgs1.grow HF.out HV.out hgrow2 (fun q' e => (hRq q' e).1) (fun q' e => (hRq q' e).2.1) (fun q' e => (hRq q' e).2.2), ?_, (hHL.pu hp1).zero hgrow2.size (by rw [mkT_length]; exact hLz), hRq.next hgs1 (fun q' e => ?_)⟩
          · rw [show L + 1 = 0 + 1 by omega]; exact hown2
          · rcases hat2 with h | h
            · left; rw [← h]; exact e
            · right; rw [h] at e; cases e; exact Nat.le_refl _
         case measure => simp [intOf]
     · obtain rfl : t = 12 := by omega
       obtain ⟨M, hM⟩ : ∃ M, M = L + 12 := ⟨_, rfl⟩
       have hMk := fun w' => markTexts i M 60 (by omega) (by omega) (by omega) w'
       rw [← hM] at hown
       obtain ⟨q, cp, rfl, -, -⟩ := own_form hown (by omega)
       have HMK := Lib.hid hMk
       have HM := Lib.hid hM
       clear hMk hM
       go_wp2_with (first
        | (go_at_call 98; refine (HMK.out _).mono ?_; rintro e w1 ⟨mv, rfl, hmo, hp1⟩; obtain ⟨gm, capm, rfl, hgm1, hgm2⟩ := own_form hmo (by omega))
        | (at_builtin; refine wpList_append_keep _ rfl _ _ 31 rfl 0 9 i0 (.string ⟨#[]⟩) 16 Tryz.underlying31 hii hz0 hz1 hz2 (by decide) q M cp _ rfl (own_puQ hown hp1) (mkT_length _ _) ⟨gm, 0, none⟩ 60 capm (txs (marksT i M 60)) rfl (by simp [txs, marksT_length]) (HL.own hmo (by simp [txs, marksT_length])).cells (txs_one _) (by have := HM.out; unfold maxLen; omega) (by have := HM.out; omega) (Nat.zero_le _) ?_ (by have := HM.out; omega); intro g' cap' w2 hown2 hgrow2 hkeep2 hat2
           have hgs2 := (hgs.pu hp1).grow HF.out HV.out hgrow2 (fun q' e => (hRq q' (by cases e; rfl)).1) (fun q' e => (hRq q' (by cases e; rfl)).2.1) (fun q' e => (hRq q' (by cases e; rfl)).2.2)
           have hHL2 := (hHL.pu hp1).keep hgrow2 hkeep2 (by have := HM.out; rw [mkT_length]; omega))
        | (at_builtin; refine wpList_append_own_at _ rfl _ _ 35 rfl w.heap.size 31 i1 (.slice none 0 0) 1 24 Tryz.underlying35 hii1 hy0 hy1 hy2 rfl (by decide) u3 us.length _ rfl (hgs2.own.alloc _) ⟨w2.heap.size, 0, none⟩ 1 1 [.slice (some ⟨g', 0, none⟩) (M + 60) cap'] rfl rfl (cell_one_newT _ _ _) (by simp [Value.oneCell']) (by unfold maxLen; omega) (by omega) (by have := hgs2.cg.size; simp; omega) ?_; intro v' w3 hown3 hgrow3 _ hat3))
       go_roundw
       case rel =>
        have hMe := HM.out
        have hLe := HLE.out
        have hal : Pu w2 (w2.alloc (.cells #[.slice (some ⟨g', 0, none⟩) (M + 60) cap'] 31)) := (Pu.refl w2).alloc _
        rw [mkT_append] at hown2
        have hR2 := hRq.next (c' := .slice (some ⟨g', 0, none⟩) (M + 60) cap') (hgs.pu hp1) (fun q' e => by
         have e' : g' = q' := by simpa [Value.ownBlock] using e
         rcases hat2 with h | h
         · left; rw [← e', h]; rfl
         · right; omega)
        obtain ⟨r1, r2, r3⟩ := hR2 g' rfl
        have hu : HL w2 (.slice (some ⟨g', 0, none⟩) (M + 60) cap') (mkT i (n i + 72)) := by
         have h60 : M + 60 = n i + 72 := by omega
         rw [← h60]
         exact HL.own hown2 (mkT_length _ _)
        exact ⟨i + 1, us ++ [.slice (some ⟨g', 0, none⟩) (M + 60) cap'], by omega, by simp [hul], by go_num, (hgs2.pu hal).push HF.out hul HV.out (by rw [← hLe]; exact hHL2.pu hal) (hu.pu hal) rfl r1 r2 hown3 hgrow3 hat3⟩
       case measure => simp [intOf]; omega
  · obtain rfl : i = vs.length := by omega
    have hlt' : decide ((vs.length : Int) < vs.length) = false := by simp
    go_wp2_with fail
    go_ret
    exact ⟨_, us, rfl, hul, hgs⟩
end Go.Proofs.YtoakccknimoogaaGreat
set_option linter.unusedSimpArgs false
set_option linter.unusedVariables false
namespace Go.Proofs.YtoakccknimoogaaGreat
open Go.RowKit Go.Esc
/-- A book: each kind's two lists. -/
def NilsT (xs : List Value) : Prop := xs.length = 14 ∧ ∀ k, k < 14 → k ≠ 0 → k ≠ 1 → xs[k]? = some (.slice none 0 0)
theorem NilsT.cell {w : World} {b : Nat} {e : TypeId} {xs : List Value} (h : NilsT xs) (hr : Row w b e xs) (k : Nat) (hk : k < 14) (h2 : k ≠ 0) (h3 : k ≠ 1) : w.cell? ⟨b, k, none⟩ = some (.slice none 0 0) := by
 have := hr.cell k (by rw [h.1]; exact hk)
 rw [this, ← List.getElem?_eq_getElem, h.2 k hk h2 h3]
set_option maxRecDepth 100000 in
theorem stillIntsT (b : Nat) (e : TypeId) (xs : List Value) (w : World) (hr : Row w b e xs) (hn : NilsT xs) :
 Calls Tryz.prog 40 #[.pointer (some ⟨b, 0, none⟩)] w fun e w' => e = .returned (.bool true) ∧ w' = w := by
 have c := hn.cell hr 2 (by decide) (by decide) (by decide)
 clear hr hn
 go_enter Tryz.func40, Tryz.ntmps40
 go_wp2_with fail
 go_loop [3] (fun i => i = .int .i64 0) (fun _ => 0)
 case atStart => rfl
 case round =>
  obtain rfl := hrel
  go_wp2_with fail
  go_ret
  exact ⟨rfl, rfl⟩
set_option maxRecDepth 100000 in
theorem putIntsT (b : Nat) (e : TypeId) (xs : List Value) (w : World) (hr : Row w b e xs) (hn : NilsT xs) :
 Calls Tryz.prog 48 #[.pointer (some ⟨b, 0, none⟩)] w fun e w' => e = .returned (.tuple #[]) ∧ w' = w := by
 have c := hn.cell hr 2 (by decide) (by decide) (by decide)
 clear hr hn
 go_enter Tryz.func48, Tryz.ntmps48
 go_wp2_with fail
 go_loop [2] (fun i => i = .int .i64 0) (fun _ => 0)
 case atStart => rfl
 case round =>
  obtain rfl := hrel
  go_wp2_with fail
  go_end0
  exact ⟨rfl, rfl⟩
set_option maxRecDepth 100000 in
theorem growIntsT (b : Nat) (e : TypeId) (xs : List Value) (w : World) (hr : Row w b e xs) (hn : NilsT xs) :
 Calls Tryz.prog 54 #[.pointer (some ⟨b, 0, none⟩)] w fun e w' => e = .returned (.slice none 0 0) ∧ w' = w := by
 have c := hn.cell hr 2 (by decide) (by decide) (by decide)
 clear hr hn
 go_enter Tryz.func54, Tryz.ntmps54
 go_wp2_with fail
 go_loop [3, 4] (fun o i => o = .slice none 0 0 ∧ i = .int .i64 0) (fun _ _ => 0)
 case atStart => exact ⟨rfl, rfl⟩
 case round =>
  obtain ⟨rfl, rfl⟩ := hrel
  go_wp2_with fail
  go_ret
  exact ⟨rfl, rfl⟩
set_option maxRecDepth 100000 in
theorem markedIntsT (w : World) :
 Calls Tryz.prog 61 #[.slice none 0 0] w fun e w' => e = .returned (.bool true) ∧ w' = w := by
 go_enter Tryz.func61, Tryz.ntmps61
 go_wp2_with fail
 go_loop [3] (fun i => i = .int .i64 0) (fun _ => 0)
 case atStart => rfl
 case round =>
  obtain rfl := hrel
  go_wp2_with fail
  go_ret
  exact ⟨rfl, rfl⟩
set_option maxRecDepth 100000 in
theorem stillRulesT (b : Nat) (e : TypeId) (xs : List Value) (w : World) (hr : Row w b e xs) (hn : NilsT xs) :
 Calls Tryz.prog 41 #[.pointer (some ⟨b, 0, none⟩)] w fun e w' => e = .returned (.bool true) ∧ w' = w := by
 have c := hn.cell hr 4 (by decide) (by decide) (by decide)
 clear hr hn
 go_enter Tryz.func41, Tryz.ntmps41
 go_wp2_with fail
 go_loop [3] (fun i => i = .int .i64 0) (fun _ => 0)
 case atStart => rfl
 case round =>
  obtain rfl := hrel
  go_wp2_with fail
  go_ret
  exact ⟨rfl, rfl⟩
set_option maxRecDepth 100000 in
theorem putRulesT (b : Nat) (e : TypeId) (xs : List Value) (w : World) (hr : Row w b e xs) (hn : NilsT xs) :
 Calls Tryz.prog 49 #[.pointer (some ⟨b, 0, none⟩)] w fun e w' => e = .returned (.tuple #[]) ∧ w' = w := by
 have c := hn.cell hr 4 (by decide) (by decide) (by decide)
 clear hr hn
 go_enter Tryz.func49, Tryz.ntmps49
 go_wp2_with fail
 go_loop [2] (fun i => i = .int .i64 0) (fun _ => 0)
 case atStart => rfl
 case round =>
  obtain rfl := hrel
  go_wp2_with fail
  go_end0
  exact ⟨rfl, rfl⟩
set_option maxRecDepth 100000 in
theorem growRulesT (b : Nat) (e : TypeId) (xs : List Value) (w : World) (hr : Row w b e xs) (hn : NilsT xs) :
 Calls Tryz.prog 55 #[.pointer (some ⟨b, 0, none⟩)] w fun e w' => e = .returned (.slice none 0 0) ∧ w' = w := by
 have c := hn.cell hr 4 (by decide) (by decide) (by decide)
 clear hr hn
 go_enter Tryz.func55, Tryz.ntmps55
 go_wp2_with fail
 go_loop [3, 4] (fun o i => o = .slice none 0 0 ∧ i = .int .i64 0) (fun _ _ => 0)
 case atStart => exact ⟨rfl, rfl⟩
 case round =>
  obtain ⟨rfl, rfl⟩ := hrel
  go_wp2_with fail
  go_ret
  exact ⟨rfl, rfl⟩
set_option maxRecDepth 100000 in
theorem markedRulesT (w : World) :
 Calls Tryz.prog 62 #[.slice none 0 0] w fun e w' => e = .returned (.bool true) ∧ w' = w := by
 go_enter Tryz.func62, Tryz.ntmps62
 go_wp2_with fail
 go_loop [3] (fun i => i = .int .i64 0) (fun _ => 0)
 case atStart => rfl
 case round =>
  obtain rfl := hrel
  go_wp2_with fail
  go_ret
  exact ⟨rfl, rfl⟩
set_option maxRecDepth 100000 in
theorem stillNotesT (b : Nat) (e : TypeId) (xs : List Value) (w : World) (hr : Row w b e xs) (hn : NilsT xs) :
 Calls Tryz.prog 42 #[.pointer (some ⟨b, 0, none⟩)] w fun e w' => e = .returned (.bool true) ∧ w' = w := by
 have c := hn.cell hr 6 (by decide) (by decide) (by decide)
 clear hr hn
 go_enter Tryz.func42, Tryz.ntmps42
 go_wp2_with fail
 go_loop [3] (fun i => i = .int .i64 0) (fun _ => 0)
 case atStart => rfl
 case round =>
  obtain rfl := hrel
  go_wp2_with fail
  go_ret
  exact ⟨rfl, rfl⟩
set_option maxRecDepth 100000 in
theorem putNotesT (b : Nat) (e : TypeId) (xs : List Value) (w : World) (hr : Row w b e xs) (hn : NilsT xs) :
 Calls Tryz.prog 50 #[.pointer (some ⟨b, 0, none⟩)] w fun e w' => e = .returned (.tuple #[]) ∧ w' = w := by
 have c := hn.cell hr 6 (by decide) (by decide) (by decide)
 clear hr hn
 go_enter Tryz.func50, Tryz.ntmps50
 go_wp2_with fail
 go_loop [2] (fun i => i = .int .i64 0) (fun _ => 0)
 case atStart => rfl
 case round =>
  obtain rfl := hrel
  go_wp2_with fail
  go_end0
  exact ⟨rfl, rfl⟩
set_option maxRecDepth 100000 in
theorem growNotesT (b : Nat) (e : TypeId) (xs : List Value) (w : World) (hr : Row w b e xs) (hn : NilsT xs) :
 Calls Tryz.prog 56 #[.pointer (some ⟨b, 0, none⟩)] w fun e w' => e = .returned (.slice none 0 0) ∧ w' = w := by
 have c := hn.cell hr 6 (by decide) (by decide) (by decide)
 clear hr hn
 go_enter Tryz.func56, Tryz.ntmps56
 go_wp2_with fail
 go_loop [3, 4] (fun o i => o = .slice none 0 0 ∧ i = .int .i64 0) (fun _ _ => 0)
 case atStart => exact ⟨rfl, rfl⟩
 case round =>
  obtain ⟨rfl, rfl⟩ := hrel
  go_wp2_with fail
  go_ret
  exact ⟨rfl, rfl⟩
set_option maxRecDepth 100000 in
theorem markedNotesT (w : World) :
 Calls Tryz.prog 63 #[.slice none 0 0] w fun e w' => e = .returned (.bool true) ∧ w' = w := by
 go_enter Tryz.func63, Tryz.ntmps63
 go_wp2_with fail
 go_loop [3] (fun i => i = .int .i64 0) (fun _ => 0)
 case atStart => rfl
 case round =>
  obtain rfl := hrel
  go_wp2_with fail
  go_ret
  exact ⟨rfl, rfl⟩
set_option maxRecDepth 100000 in
theorem stillItemsT (b : Nat) (e : TypeId) (xs : List Value) (w : World) (hr : Row w b e xs) (hn : NilsT xs) :
 Calls Tryz.prog 43 #[.pointer (some ⟨b, 0, none⟩)] w fun e w' => e = .returned (.bool true) ∧ w' = w := by
 have c := hn.cell hr 8 (by decide) (by decide) (by decide)
 clear hr hn
 go_enter Tryz.func43, Tryz.ntmps43
 go_wp2_with fail
 go_loop [3] (fun i => i = .int .i64 0) (fun _ => 0)
 case atStart => rfl
 case round =>
  obtain rfl := hrel
  go_wp2_with fail
  go_ret
  exact ⟨rfl, rfl⟩
set_option maxRecDepth 100000 in
theorem putItemsT (b : Nat) (e : TypeId) (xs : List Value) (w : World) (hr : Row w b e xs) (hn : NilsT xs) :
 Calls Tryz.prog 51 #[.pointer (some ⟨b, 0, none⟩)] w fun e w' => e = .returned (.tuple #[]) ∧ w' = w := by
 have c := hn.cell hr 8 (by decide) (by decide) (by decide)
 clear hr hn
 go_enter Tryz.func51, Tryz.ntmps51
 go_wp2_with fail
 go_loop [2] (fun i => i = .int .i64 0) (fun _ => 0)
 case atStart => rfl
 case round =>
  obtain rfl := hrel
  go_wp2_with fail
  go_end0
  exact ⟨rfl, rfl⟩
set_option maxRecDepth 100000 in
theorem growItemsT (b : Nat) (e : TypeId) (xs : List Value) (w : World) (hr : Row w b e xs) (hn : NilsT xs) :
 Calls Tryz.prog 57 #[.pointer (some ⟨b, 0, none⟩)] w fun e w' => e = .returned (.slice none 0 0) ∧ w' = w := by
 have c := hn.cell hr 8 (by decide) (by decide) (by decide)
 clear hr hn
 go_enter Tryz.func57, Tryz.ntmps57
 go_wp2_with fail
 go_loop [3, 4] (fun o i => o = .slice none 0 0 ∧ i = .int .i64 0) (fun _ _ => 0)
 case atStart => exact ⟨rfl, rfl⟩
 case round =>
  obtain ⟨rfl, rfl⟩ := hrel
  go_wp2_with fail
  go_ret
  exact ⟨rfl, rfl⟩
set_option maxRecDepth 100000 in
theorem markedItemsT (w : World) :
 Calls Tryz.prog 64 #[.slice none 0 0] w fun e w' => e = .returned (.bool true) ∧ w' = w := by
 go_enter Tryz.func64, Tryz.ntmps64
 go_wp2_with fail
 go_loop [3] (fun i => i = .int .i64 0) (fun _ => 0)
 case atStart => rfl
 case round =>
  obtain rfl := hrel
  go_wp2_with fail
  go_ret
  exact ⟨rfl, rfl⟩
set_option maxRecDepth 100000 in
theorem stillCommandsT (b : Nat) (e : TypeId) (xs : List Value) (w : World) (hr : Row w b e xs) (hn : NilsT xs) :
 Calls Tryz.prog 44 #[.pointer (some ⟨b, 0, none⟩)] w fun e w' => e = .returned (.bool true) ∧ w' = w := by
 have c := hn.cell hr 10 (by decide) (by decide) (by decide)
 clear hr hn
 go_enter Tryz.func44, Tryz.ntmps44
 go_wp2_with fail
 go_loop [3] (fun i => i = .int .i64 0) (fun _ => 0)
 case atStart => rfl
 case round =>
  obtain rfl := hrel
  go_wp2_with fail
  go_ret
  exact ⟨rfl, rfl⟩
set_option maxRecDepth 100000 in
theorem putCommandsT (b : Nat) (e : TypeId) (xs : List Value) (w : World) (hr : Row w b e xs) (hn : NilsT xs) :
 Calls Tryz.prog 52 #[.pointer (some ⟨b, 0, none⟩)] w fun e w' => e = .returned (.tuple #[]) ∧ w' = w := by
 have c := hn.cell hr 10 (by decide) (by decide) (by decide)
 clear hr hn
 go_enter Tryz.func52, Tryz.ntmps52
 go_wp2_with fail
 go_loop [2] (fun i => i = .int .i64 0) (fun _ => 0)
 case atStart => rfl
 case round =>
  obtain rfl := hrel
  go_wp2_with fail
  go_end0
  exact ⟨rfl, rfl⟩
set_option maxRecDepth 100000 in
theorem growCommandsT (b : Nat) (e : TypeId) (xs : List Value) (w : World) (hr : Row w b e xs) (hn : NilsT xs) :
 Calls Tryz.prog 58 #[.pointer (some ⟨b, 0, none⟩)] w fun e w' => e = .returned (.slice none 0 0) ∧ w' = w := by
 have c := hn.cell hr 10 (by decide) (by decide) (by decide)
 clear hr hn
 go_enter Tryz.func58, Tryz.ntmps58
 go_wp2_with fail
 go_loop [3, 4] (fun o i => o = .slice none 0 0 ∧ i = .int .i64 0) (fun _ _ => 0)
 case atStart => exact ⟨rfl, rfl⟩
 case round =>
  obtain ⟨rfl, rfl⟩ := hrel
  go_wp2_with fail
  go_ret
  exact ⟨rfl, rfl⟩
set_option maxRecDepth 100000 in
theorem markedCommandsT (w : World) :
 Calls Tryz.prog 65 #[.slice none 0 0] w fun e w' => e = .returned (.bool true) ∧ w' = w := by
 go_enter Tryz.func65, Tryz.ntmps65
 go_wp2_with fail
 go_loop [3] (fun i => i = .int .i64 0) (fun _ => 0)
 case atStart => rfl
 case round =>
  obtain rfl := hrel
  go_wp2_with fail
  go_ret
  exact ⟨rfl, rfl⟩
set_option maxRecDepth 100000 in
theorem stillRepliesT (b : Nat) (e : TypeId) (xs : List Value) (w : World) (hr : Row w b e xs) (hn : NilsT xs) :
 Calls Tryz.prog 45 #[.pointer (some ⟨b, 0, none⟩)] w fun e w' => e = .returned (.bool true) ∧ w' = w := by
 have c := hn.cell hr 12 (by decide) (by decide) (by decide)
 clear hr hn
 go_enter Tryz.func45, Tryz.ntmps45
 go_wp2_with fail
 go_loop [3] (fun i => i = .int .i64 0) (fun _ => 0)
 case atStart => rfl
 case round =>
  obtain rfl := hrel
  go_wp2_with fail
  go_ret
  exact ⟨rfl, rfl⟩
set_option maxRecDepth 100000 in
theorem putRepliesT (b : Nat) (e : TypeId) (xs : List Value) (w : World) (hr : Row w b e xs) (hn : NilsT xs) :
 Calls Tryz.prog 46 #[.pointer (some ⟨b, 0, none⟩)] w fun e w' => e = .returned (.tuple #[]) ∧ w' = w := by
 have c := hn.cell hr 12 (by decide) (by decide) (by decide)
 clear hr hn
 go_enter Tryz.func46, Tryz.ntmps46
 go_wp2_with fail
 go_loop [2] (fun i => i = .int .i64 0) (fun _ => 0)
 case atStart => rfl
 case round =>
  obtain rfl := hrel
  go_wp2_with fail
  go_end0
  exact ⟨rfl, rfl⟩
set_option maxRecDepth 100000 in
theorem growRepliesT (b : Nat) (e : TypeId) (xs : List Value) (w : World) (hr : Row w b e xs) (hn : NilsT xs) :
 Calls Tryz.prog 59 #[.pointer (some ⟨b, 0, none⟩)] w fun e w' => e = .returned (.slice none 0 0) ∧ w' = w := by
 have c := hn.cell hr 12 (by decide) (by decide) (by decide)
 clear hr hn
 go_enter Tryz.func59, Tryz.ntmps59
 go_wp2_with fail
 go_loop [3, 4] (fun o i => o = .slice none 0 0 ∧ i = .int .i64 0) (fun _ _ => 0)
 case atStart => exact ⟨rfl, rfl⟩
 case round =>
  obtain ⟨rfl, rfl⟩ := hrel
  go_wp2_with fail
  go_ret
  exact ⟨rfl, rfl⟩
set_option maxRecDepth 100000 in
theorem markedRepliesT (w : World) :
 Calls Tryz.prog 66 #[.slice none 0 0] w fun e w' => e = .returned (.bool true) ∧ w' = w := by
 go_enter Tryz.func66, Tryz.ntmps66
 go_wp2_with fail
 go_loop [3] (fun i => i = .int .i64 0) (fun _ => 0)
 case atStart => rfl
 case round =>
  obtain rfl := hrel
  go_wp2_with fail
  go_ret
  exact ⟨rfl, rfl⟩
end Go.Proofs.YtoakccknimoogaaGreat
namespace Go.Proofs.YtoakccknimoogaaGreat
open Go.RowKit Go.Esc
/-- Two values lie in blocks of their own. -/
def Ap (u v : Value) : Prop := ∀ g, u.ownBlock = some g → v.ownBlock ≠ some g
theorem Ap.symm {u v : Value} (h : Ap u v) : Ap v u := fun g hv hu => h g hu hv
theorem Ap.ne {u v : Value} (h : Ap u v) : v.ownBlock = none ∨ v.ownBlock ≠ u.ownBlock := by
 cases hv : v.ownBlock with
 | none => exact .inl rfl
 | some g => exact .inr fun e => h g e.symm hv
theorem Ap.at {u u' v : Value} {w : World} (h : Ap u v) (hat : u'.ownBlock = u.ownBlock ∨ u'.ownBlock = some w.heap.size) (hv : ∀ k, v.ownBlock = some k → k < w.heap.size) : Ap u' v := fun g hu hg => by
 rcases hat with e | e
 · exact h g (e ▸ hu) hg
 · rw [e] at hu; cases hu
   exact Nat.lt_irrefl _ (hv _ hg)
/-- What a book keeps: the lists, and copies of them. -/
structure Kp (w : World) (b : Nat) (v2 v3 : Value) (ss cs : List Value) (ls ks : List (List Bs)) : Prop where
 o2 : w.ownsRow (b+1) 31 1 v2 ss.length ss
 o3 : w.ownsRow (b+1) 31 1 v3 cs.length cs
 hl : ss.length = ls.length
 hk : cs.length = ks.length
 s2 : ∀ (j : Nat) (s : Value) (l : List Bs), ss[j]? = some s → ls[j]? = some l → w.ownsRow (b+1) 9 1 s l.length (txs l)
 s3 : ∀ (j : Nat) (s : Value) (l : List Bs), cs[j]? = some s → ks[j]? = some l → w.ownsRow (b+1) 9 1 s l.length (txs l)
 a23 : Ap v2 v3
 a2s : ∀ s ∈ ss, Ap v2 s ∧ Ap v3 s
 a2c : ∀ s ∈ cs, Ap v2 s ∧ Ap v3 s
 pw : ∀ (i j : Nat) (s t : Value), i ≠ j → ss[i]? = some s → ss[j]? = some t → Ap s t
section
variable {w w' : World} {b : Nat} {v2 v3 : Value} {ss cs : List Value} {ls ks : List (List Bs)}
theorem Kp.lt2 (h : Kp w b v2 v3 ss cs ls ks) : ∀ s ∈ ss, ∀ k, s.ownBlock = some k → b + 1 ≤ k ∧ k < w.heap.size := fun s hs k hk => by
 obtain ⟨j, hj⟩ := List.getElem?_of_mem hs
 have hjl := (List.getElem?_eq_some_iff.1 hj).1
 exact (h.s2 j s _ hj (List.getElem?_eq_getElem (by rw [← h.hl]; exact hjl))).lt k hk
theorem Kp.lt3 (h : Kp w b v2 v3 ss cs ls ks) : ∀ s ∈ cs, ∀ k, s.ownBlock = some k → b + 1 ≤ k ∧ k < w.heap.size := fun s hs k hk => by
 obtain ⟨j, hj⟩ := List.getElem?_of_mem hs
 have hjl := (List.getElem?_eq_some_iff.1 hj).1
 exact (h.s3 j s _ hj (List.getElem?_eq_getElem (by rw [← h.hk]; exact hjl))).lt k hk
theorem Kp.grown {row : Option Nat} (h : Kp w b v2 v3 ss cs ls ks) (hg : w.grownBy w' row) (h2 : v2.ownBlock = none ∨ v2.ownBlock ≠ row) (h3 : v3.ownBlock = none ∨ v3.ownBlock ≠ row)
 (hs : ∀ s ∈ ss, s.ownBlock = none ∨ s.ownBlock ≠ row) (hc : ∀ s ∈ cs, s.ownBlock = none ∨ s.ownBlock ≠ row) : Kp w' b v2 v3 ss cs ls ks :=
 ⟨h.o2.kept hg h2, h.o3.kept hg h3, h.hl, h.hk, fun j s l hj hl => (h.s2 j s l hj hl).kept hg (hs s (List.mem_of_getElem? hj)), fun j s l hj hl => (h.s3 j s l hj hl).kept hg (hc s (List.mem_of_getElem? hj)), h.a23, h.a2s, h.a2c, h.pw⟩
theorem Kp.pu (h : Kp w b v2 v3 ss cs ls ks) (hp : Pu w w') : Kp w' b v2 v3 ss cs ls ks :=
 ⟨own_puQ h.o2 hp, own_puQ h.o3 hp, h.hl, h.hk, fun j s l hj hl => own_puQ (h.s2 j s l hj hl) hp, fun j s l hj hl => own_puQ (h.s3 j s l hj hl) hp, h.a23, h.a2s, h.a2c, h.pw⟩
theorem Kp.store (h : Kp w b v2 v3 ss cs ls ks) (o : Nat) (x : Value) : Kp (w.setCell ⟨b, o, none⟩ x) b v2 v3 ss cs ls ks := by
 have hg : w.grownBy (w.setCell ⟨b, o, none⟩ x) (some b) := ⟨rfl, rfl, rfl, by simp, fun k _ hk => Below.heap_setCell _ _ _ _ (fun e => hk (by rw [e]))⟩
 refine h.grown hg (.inr fun e => ?_) (.inr fun e => ?_) (fun s hs => .inr fun e => ?_) (fun s hs => .inr fun e => ?_)
 · have := (h.o2.lt b e).1; omega
 · have := (h.o3.lt b e).1; omega
 · have := (h.lt2 s hs b e).1; omega
 · have := (h.lt3 s hs b e).1; omega
theorem Kp.push2 (h : Kp w b v2 v3 ss cs ls ks) {s v2' : Value} {l : List Bs} (hs : w.ownsRow (b+1) 9 1 s l.length (txs l)) (as2 : Ap v2 s) (as3 : Ap v3 s) (ass : ∀ t ∈ ss, Ap t s)
 (ho : w'.ownsRow (b+1) 31 1 v2' (ss.length + 1) (ss ++ [s])) (hg : w.grownBy w' v2.ownBlock) (hat : v2'.ownBlock = v2.ownBlock ∨ v2'.ownBlock = some w.heap.size) : Kp w' b v2' v3 (ss ++ [s]) cs (ls ++ [l]) ks := by
 refine ⟨by simpa using ho, h.o3.kept hg h.a23.ne, by simp [h.hl], h.hk, fun j t m hj hm => ?_, fun j t m hj hm => (h.s3 j t m hj hm).kept hg (h.a2c t (List.mem_of_getElem? hj)).1.ne, h.a23.at hat fun k hk => (h.o3.lt k hk).2, fun t ht => ?_, fun t ht => ⟨(h.a2c t ht).1.at hat fun k hk => (h.lt3 t ht k hk).2, (h.a2c t ht).2⟩, fun i j t u hij ht hu => ?_⟩
 · by_cases hjl : j < ss.length
   · rw [List.getElem?_append_left hjl] at hj
     rw [List.getElem?_append_left (by rw [← h.hl]; exact hjl)] at hm
     exact (h.s2 j t m hj hm).kept hg (h.a2s t (List.mem_of_getElem? hj)).1.ne
   · have hj2 := (List.getElem?_eq_some_iff.1 hj).1
     simp at hj2
     obtain rfl : j = ss.length := by omega
     rw [h.hl] at hm
     simp at hj hm
     subst hj; subst hm
     exact hs.kept hg as2.ne
 · rcases List.mem_append.1 ht with h1 | h1
   · exact ⟨(h.a2s t h1).1.at hat fun k hk => (h.lt2 t h1 k hk).2, (h.a2s t h1).2⟩
   · obtain rfl : t = s := by simpa using h1
     exact ⟨as2.at hat fun k hk => (hs.lt k hk).2, as3⟩
 · have hi2 := (List.getElem?_eq_some_iff.1 ht).1
   have hj2 := (List.getElem?_eq_some_iff.1 hu).1
   simp at hi2 hj2
   by_cases hi : i < ss.length
   · rw [List.getElem?_append_left hi] at ht
     by_cases hj : j < ss.length
     · rw [List.getElem?_append_left hj] at hu
       exact h.pw i j t u hij ht hu
     · obtain rfl : j = ss.length := by omega
       simp at hu; subst hu
       exact ass t (List.mem_of_getElem? ht)
   · obtain rfl : i = ss.length := by omega
     have hj : j < ss.length := by omega
     rw [List.getElem?_append_left hj] at hu
     simp at ht; subst ht
     exact (ass u (List.mem_of_getElem? hu)).symm
theorem Kp.push3 (h : Kp w b v2 v3 ss cs ls ks) {s v3' : Value} {l : List Bs} (hs : w.ownsRow (b+1) 9 1 s l.length (txs l)) (as2 : Ap v2 s) (as3 : Ap v3 s)
 (ho : w'.ownsRow (b+1) 31 1 v3' (cs.length + 1) (cs ++ [s])) (hg : w.grownBy w' v3.ownBlock) (hat : v3'.ownBlock = v3.ownBlock ∨ v3'.ownBlock = some w.heap.size) : Kp w' b v2 v3' ss (cs ++ [s]) ls (ks ++ [l]) := by
 refine ⟨h.o2.kept hg h.a23.symm.ne, by simpa using ho, h.hl, by simp [h.hk], fun j t m hj hm => (h.s2 j t m hj hm).kept hg (h.a2s t (List.mem_of_getElem? hj)).2.ne, fun j t m hj hm => ?_, (h.a23.symm.at hat fun k hk => (h.o2.lt k hk).2).symm, fun t ht => ⟨(h.a2s t ht).1, (h.a2s t ht).2.at hat fun k hk => (h.lt2 t ht k hk).2⟩, fun t ht => ?_, h.pw⟩
 · by_cases hjl : j < cs.length
   · rw [List.getElem?_append_left hjl] at hj
     rw [List.getElem?_append_left (by rw [← h.hk]; exact hjl)] at hm
     exact (h.s3 j t m hj hm).kept hg (h.a2c t (List.mem_of_getElem? hj)).2.ne
   · have hj2 := (List.getElem?_eq_some_iff.1 hj).1
     simp at hj2
     obtain rfl : j = cs.length := by omega
     rw [h.hk] at hm
     simp at hj hm
     subst hj; subst hm
     exact hs.kept hg as3.ne
 · rcases List.mem_append.1 ht with h1 | h1
   · exact ⟨(h.a2c t h1).1, (h.a2c t h1).2.at hat fun k hk => (h.lt3 t h1 k hk).2⟩
   · obtain rfl : t = s := by simpa using h1
     exact ⟨as2, as3.at hat fun k hk => (hs.lt k hk).2⟩
end
/-- An append within a drawn region. -/
theorem op_appendR {P : Program} {ops : Array Oper} {Q : Exit → Act → World → Prop} {R : World → Prop} {Φ : Value → World → Prop} {i : Nat} {o : Oper} {a' : Act} {w : World} (ho : ops[i]? = some o) (hg : o.guard = none) (s x : Operand) (t : TypeId)
 (hop : o.op = Op.call { callee := Callee.builtin Builtin.append, args := #[s, x], argTypes := #[t, t] })
 (base : Nat) (e : TypeId) (inf : TypeInfo) (z : Value) (size bytes : Nat) (h1 : P.underlying t = some (.slice e)) (h2 : P.info? e = some inf) (h3 : inf.zero = some z) (h4 : inf.size = size) (h5 : inf.bytes = bytes) (h6 : z.cells.size = size) (h7 : 0 < size)
 (v : Value) (n : Nat) (xs : List Value) (hs : a'.eval s = v) (hown : w.ownsRow base e size v n xs)
 (ad : Addr) (m c : Nat) (news : List Value) (hx : a'.eval x = .slice (some ad) m c) (hn : news.length = m * size) (hc : ∀ j u, news[j]? = some u → w.cell? (ad.add j) = some u) (h1c : ∀ u ∈ news, u.oneCell' = true)
 (b1 : n + m ≤ maxLen) (b2 : (n + m) * bytes ≤ 140737488355328) (hbase : base ≤ w.heap.size) (hd : o.dst.isSome = true)
 (hK : ∀ v' w', w'.ownsRow base e size v' (n + m) (xs ++ news) → w.grownBy w' v.ownBlock → (v'.ownBlock = v.ownBlock ∨ v'.ownBlock = some w.heap.size) → Φ v' w' ∧ R w') :
 wpOp P ops Q i (fun a'' w'' => ∃ v, a'' = a'.put o.dst v ∧ Φ (if o.dst.isSome then v else undef) w'' ∧ R w'') a' w := by
 have hw : Region.wanted o (yielded ops a'.tmps) = true := wanted_none hg
 unfold wpOp
 simp only [ho, hw, if_true]
 refine .inl ?_
 obtain ⟨v', w', hr, hA, hB, _, hD⟩ := run_append_own_at (P := P) w base t o.type e inf z size bytes h1 h2 h3 h4 h5 h6 h7 v n xs hown ad m c news hn hc h1c b1 b2 hbase
 unfold Oper.wp execOp
 simp only [hop, resolve, invoke, builtin, Sem.run_bind, Sem.run_pure, Result.andThen_ok, List.map_toArray, List.map_cons, List.map_nil, hs, hx, hr]
 obtain ⟨q1, q2⟩ := hK v' w' hA hB hD
 exact ⟨v', rfl, by rw [if_pos hd]; exact q1, q2⟩
/-- A copy that is the call's own. -/
def IsRowCp (g B : Nat) (l : List Bs) : Value → World → Prop := fun v w => ∃ k cap, v = .slice k l.length cap ∧ g < B ∧ w.ownsRow B 9 1 (.slice k l.length cap) l.length (txs l)
theorem IsRowCp.but {g B : Nat} {l : List Bs} {v : Value} {w w' : World} (h : IsRowCp g B l v w) (hp : But g w w') : IsRowCp g B l v w' := by
 obtain ⟨k, cap, hv, hg, ho⟩ := h
 refine ⟨k, cap, hv, hg, ho.kept (row := some g) ⟨hp.os, hp.tape, hp.output, hp.size, fun k hk hne => hp.block k hk (fun e => hne (by rw [e]))⟩ (.inr fun e => ?_)⟩
 have := (ho.lt g e).1
 omega
instance (g B : Nat) (l : List Bs) : StableB g (IsRowCp g B l) := ⟨fun _ _ _ h hp => h.but hp⟩
/-- A slice of just such a copy. -/
def IsRowCpS (g B : Nat) (l : List Bs) : Value → World → Prop := fun v w => ∃ k cap, v = .slice (some ⟨k, 0, none⟩) 1 cap ∧ ∃ c, Row w k 31 [c] ∧ k ≠ g ∧ IsRowCp g B l c w
instance (g B : Nat) (l : List Bs) : StableB g (IsRowCpS g B l) := ⟨fun _ _ _ h hp => by
 obtain ⟨k, cap, hv, c, hr, hk, hc⟩ := h
 exact ⟨k, cap, hv, c, hp.row hr hk, hk, hc.but hp⟩⟩
/-- What stands when the copy is appended. -/
def IsRowMid (B b : Nat) (e : TypeId) (n : Nat) (xs : List Value) (v2 v3 : Value) (ss cs : List Value) (ls ks : List (List Bs)) : Value → World → Prop := fun v w => ∃ k cap, v = .slice (some ⟨k, 0, none⟩) n cap ∧ ∃ c, Row w b e xs ∧ Kp w b v2 (.slice (some ⟨k, 0, none⟩) n cap) ss (cs ++ [c]) ls ks ∧ (k < B → v3.ownBlock = some k) ∧ ∀ g, c.ownBlock = some g → B ≤ g
instance (B b : Nat) (e : TypeId) (n : Nat) (xs : List Value) (v2 v3 : Value) (ss cs : List Value) (ls ks : List (List Bs)) : Stable (IsRowMid B b e n xs v2 v3 ss cs ls ks) := ⟨fun _ _ _ h hp => by
 obtain ⟨k, cap, hv, c, hr, hk, h1, h2⟩ := h
 exact ⟨k, cap, hv, c, hr.pu hp, hk.pu hp, h1, h2⟩⟩
theorem ownB {w : World} {B B' e n : Nat} {v : Value} {xs : List Value} (h : w.ownsRow B e 1 v n xs) (hb : B' ≤ B) : w.ownsRow B' e 1 v n xs := by
 refine ⟨h.1, ?_⟩
 rcases h.2 with hn | ⟨g, cap, cur, hv, hg, rest⟩
 · exact .inl hn
 · exact .inr ⟨g, cap, cur, hv, by omega, rest⟩
theorem copyCp (g B : Nat) (v : Value) (l : List Bs) (w : World) (h : LT w v l) (hg : g < B) (hB : B ≤ w.heap.size) :
 Calls Tryz.prog 38 #[v] w fun e w' => ∃ v', e = .returned v' ∧ IsRowCp g B l v' w' ∧ Pu w w' := by
 refine (copyTexts v l w h).mono ?_
 rintro e w' ⟨v', rfl, ho, hp⟩
 obtain ⟨k, cap, rfl, -⟩ := own_slice ho
 exact ⟨_, rfl, ⟨k, cap, rfl, hg, ownB ho hB⟩, hp⟩
end Go.Proofs.YtoakccknimoogaaGreat
set_option linter.unusedSimpArgs false
set_option linter.unusedVariables false
namespace Go.Proofs.YtoakccknimoogaaGreat
open Go.RowKit Go.Esc
theorem cell_row {w : World} {k : Nat} {e : TypeId} {c : Value} (h : Row w k e [c]) : ∀ j u, [c][j]? = some u → w.cell? ((⟨k, 0, none⟩ : Addr).add j) = some u := by
 intro j u hj
 match j, hj with
 | 0, hj =>
   simp at hj
   subst hj
   have := h.cell 0 (by simp)
   simpa [Addr.add] using this
theorem NilsT.set {xs : List Value} (h : NilsT xs) (k : Nat) (v : Value) (hk : k = 0 ∨ k = 1) : NilsT (xs.set k v) :=
 ⟨by simp [h.1], fun j hj h2 h3 => by rw [List.getElem?_set_ne (by omega)]; exact h.2 j hj h2 h3⟩
theorem op_mid {ops : Array Oper} {Q : Exit → Act → World → Prop} {i : Nat} {o : Oper} {a' : Act} (ho : ops[i]? = some o) (b : Nat) (e : TypeId) (xs : List Value) (v2 v3 : Value) (ss cs : List Value) (ls ks : List (List Bs)) (l : List Bs) (g : Nat) (w3 w' : World) (hr : Row w3 b e xs)
 (hk : Kp w3 b v2 v3 ss cs ls ks) (hp : Pu w3 w') (hgw : g < w3.heap.size) (hg3 : v3.ownBlock = none ∨ v3.ownBlock = some g) (n : Nat) (hn : cs.length = n) (hm : n < 250) (hs2 : 0 < ss.length)
 (s x : Operand) (hgd : o.guard = none) (hop : o.op = Op.call { callee := Callee.builtin Builtin.append, args := #[s, x], argTypes := #[35, 35] })
 (hs : a'.eval s = v3) (ad : Addr) (cp : Nat) (hx : a'.eval x = .slice (some ad) 1 cp) (c : Value) (hc : ∀ j u, [c][j]? = some u → w'.cell? (ad.add j) = some u) (hcp : IsRowCp g w3.heap.size l c w') (hd : o.dst.isSome = true) :
 wpOp Tryz.prog ops Q i (fun a'' w'' => ∃ v, a'' = a'.put o.dst v ∧ IsRowMid w3.heap.size b e (n + 1) xs v2 v3 ss cs ls (ks ++ [l]) (if o.dst.isSome then v else undef) w'' ∧ But g w' w'') a' w' := by
 obtain ⟨i0, hii, hz0, hz1, hz2⟩ := info_parts infoLT
 subst hn
 have hk' := hk.pu hp
 obtain ⟨k, cap, rfl, hgB, hoc⟩ := hcp
 have hb := hr.lt
 have hsz := hp.size
 refine op_appendR (R := But g w') ho hgd s x 35 hop (b+1) 31 i0 (.slice none 0 0) 1 24 Tryz.underlying35 hii hz0 hz1 hz2 rfl (by decide) v3 cs.length cs hs hk'.o3 ad 1 cp [_] hx rfl hc (by simp [Value.oneCell']) (by unfold maxLen; omega) (by omega) (by omega) hd ?_
 intro v' w'' hA hB hD
 have hbut : But g w' w'' := ⟨hB.os, hB.tape, hB.output, hB.size, fun j hj hne => hB.block j hj (fun e => by
  rcases hg3 with h | h
  · rw [h] at e; cases e
  · rw [h] at e; cases e; exact hne rfl)⟩
 have ap2 : Ap v2 (.slice k l.length cap) := fun q h2 h3 => by
  have := (hk.o2.lt q h2).2
  have := (hoc.lt q h3).1
  omega
 have ap3 : Ap v3 (.slice k l.length cap) := fun q h2 h3 => by
  have := (hk.o3.lt q h2).2
  have := (hoc.lt q h3).1
  omega
 have hkp := hk'.push3 (ownB hoc (by omega)) ap2 ap3 hA hB hD
 obtain ⟨q, cq, rfl, _, _⟩ := own_form hA (by omega)
 refine ⟨⟨q, cq, rfl, _, (hr.pu hp).grown hB ?_, hkp, fun hlt => ?_, fun g hg => (hoc.lt g hg).1⟩, hbut⟩
 rotate_left
 · rcases hD with h | h
   · rw [← h]; rfl
   · have : q = w'.heap.size := by simpa [Value.ownBlock] using h
     omega
 intro e'
 have := (hk.o3.lt b e'.symm).1
 omega
set_option maxRecDepth 100000 in
set_option maxHeartbeats 3200000 in
theorem keepTexts (b : Nat) (e : TypeId) (xs : List Value) (v2 v3 s : Value) (ss cs : List Value) (ls : List (List Bs)) (l : List Bs) (w : World) (hr : Row w b e xs) (hn : NilsT xs) (h2 : xs[0]? = some v2) (h3 : xs[1]? = some v3)
 (hk : Kp w b v2 v3 ss cs ls ls) (hm : ss.length < 250) (hl1 : l.length ≤ 100000)
 (hs : w.ownsRow (b+1) 9 1 s l.length (txs l)) (as2 : Ap v2 s) (as3 : Ap v3 s) (ass : ∀ t ∈ ss, Ap t s) :
 Calls Tryz.prog 14 #[.pointer (some ⟨b, 0, none⟩), s] w fun e' w' => e' = .returned (.tuple #[]) ∧ ∃ xs' v2' v3' c, Row w' b e xs' ∧ NilsT xs' ∧ xs'[0]? = some v2' ∧ xs'[1]? = some v3' ∧ Kp w' b v2' v3' (ss ++ [s]) (cs ++ [c]) (ls ++ [l]) (ls ++ [l]) ∧ Below b w w' ∧ Cg (fun k => k = b ∨ v2.ownBlock = some k ∨ v3.ownBlock = some k) w w' ∧ (∀ k, v2'.ownBlock = some k → v2.ownBlock = some k ∨ w.heap.size ≤ k) ∧ (∀ k, v3'.ownBlock = some k → v3.ownBlock = some k ∨ w.heap.size ≤ k) ∧ ∀ k, c.ownBlock = some k → w.heap.size ≤ k := by
 obtain ⟨i0, hii, hz0, hz1, hz2⟩ := info_parts infoLT
 obtain ⟨a2, c2, rfl, -⟩ := own_slice hk.o2
 obtain ⟨a3, c3, rfl, -⟩ := own_slice hk.o3
 have hcl : cs.length = ss.length := by rw [hk.hk, hk.hl]
 rw [hcl] at h3 hk as3
 have hx : xs.length = 14 := hn.1
 have b0 : b < w.heap.size := hr.lt
 have c2' := hr.cell 0 (by omega)
 have f2' := hr.frozen 0 (by omega)
 rw [← List.getElem?_eq_getElem, h2] at c2'
 have hmi : (ss.length : Int) < 250 := by omega
 obtain ⟨gs, cps, rfl, hgs⟩ := own_slice hs
 have H2 := Lib.hid h2
 have H3 := Lib.hid h3
 have HN := Lib.hid hn
 have HCL := Lib.hid hcl
 have HL1 := Lib.hid hl1
 have HASS := Lib.hid ass
 have HX := Lib.hid hx
 clear h2 h3 hn hcl hl1 ass hx
 have hcA : (w.alloc (.cells #[.slice gs l.length cps] 31)).cell? ⟨b, 0, none⟩ = some (.slice a2 ss.length c2) := by
  have := (hr.alloc (.cells #[.slice gs l.length cps] 31)).cell 0 (by have := HX.out; omega)
  rw [← List.getElem?_eq_getElem, H2.out] at this
  exact this
 have hpA : Pu w (w.alloc (.cells #[.slice gs l.length cps] 31)) := (Pu.refl w).alloc _
 go_enter Tryz.func14, Tryz.ntmps14
 go_wp2_with (at_builtin; refine wpList_append_own_at _ rfl _ _ 35 rfl (b+1) 31 i0 (.slice none 0 0) 1 24 Tryz.underlying35 hii hz0 hz1 hz2 rfl (by decide) (.slice a2 ss.length c2) ss.length _ rfl (hk.o2.alloc _) ⟨w.heap.size, 0, none⟩ 1 1 [.slice gs l.length cps] rfl rfl (cell_one_newT _ _ _) (by simp [Value.oneCell']) (by unfold maxLen; omega) (by omega) (by simp; omega) ?_; intro v2' w2 hown2 hgrow2 _ hat2
              obtain ⟨g2, cp2, rfl, -, -⟩ := own_form hown2 (by omega)
              have hr2 := grown_row hgrow2 (hr.pu hpA) (by intro h; have := (hk.o2.lt b h.symm).1; omega)
              have f2 := hr2.frozen 0 (by have := HX.out; omega)
              have c22 : ∃ u, w2.cell? ⟨b, 0, none⟩ = some u := ⟨_, hr2.cell 0 (by have := HX.out; omega)⟩
              obtain ⟨u22, c22⟩ := c22
              have hk2 := ((hk.pu hpA).push2 (own_puQ hs hpA) as2 as3 HASS.out hown2 hgrow2 hat2).store 0 (.slice (some ⟨g2, 0, none⟩) (ss.length + 1) cp2)
              have hr3 := hr2.set 0 (.slice (some ⟨g2, 0, none⟩) (ss.length + 1) cp2)
              have hcg2 : Cg (fun k => k = b ∨ (Value.slice a2 ss.length c2).ownBlock = some k ∨ (Value.slice a3 ss.length c3).ownBlock = some k) w (w2.setCell ⟨b, 0, none⟩ (.slice (some ⟨g2, 0, none⟩) (ss.length + 1) cp2)) := (((Cg.ofPu hpA).grown' hgrow2 (fun q hq => .inl (.inr (.inl hq))))).trans (Cg.ofBut (But.set _ _ _) (.inl rfl))
              have hg2at : g2 < w.heap.size → (Value.slice a2 ss.length c2).ownBlock = some g2 := fun hlt => by
               rcases hat2 with h | h
               · rw [← h]; rfl
               · have : g2 = (w.alloc (.cells #[.slice gs l.length cps] 31)).heap.size := by simpa [Value.ownBlock] using h
                 simp at this; omega
              have hb2 : Below b w (w2.setCell ⟨b, 0, none⟩ (.slice (some ⟨g2, 0, none⟩) (ss.length + 1) cp2)) := (((Below.refl b w).alloc (by omega) _).grown hgrow2 (by simp; omega) (fun j hj => by have := (hk.o2.lt j hj).1; omega)).setCell (Nat.le_refl _) _)
 obtain ⟨v2', hv2'⟩ : ∃ v, v = Value.slice (some ⟨g2, 0, none⟩) (ss.length + 1) cp2 := ⟨_, rfl⟩
 have hv2b : ∀ k, v2'.ownBlock = some k → k < w.heap.size → (Value.slice a2 ss.length c2).ownBlock = some k := fun k hk0 hlt => by
  rw [hv2'] at hk0
  obtain rfl : g2 = k := by simpa [Value.ownBlock] using hk0
  exact hg2at hlt
 rw [← hv2'] at hk2 hr3 hb2 hcg2 ⊢
 clear hv2' hr2 f2 c22 hown2 hgrow2 hat2 hcA hpA c2' f2' hr hs as2 as3
 obtain ⟨w3, hw3⟩ : ∃ w', w' = w2.setCell ⟨b, 0, none⟩ v2' := ⟨_, rfl⟩
 rw [← hw3] at hk2 hr3 hb2 hcg2 ⊢
 clear hw3
 obtain ⟨g, hgw, hgb, hgs', hg3, hbg, hgin⟩ : ∃ g, g < w3.heap.size ∧ g ≠ b ∧ (Value.slice gs l.length cps).ownBlock ≠ some g ∧ ((Value.slice a3 ss.length c3).ownBlock = none ∨ (Value.slice a3 ss.length c3).ownBlock = some g) ∧ b ≤ g ∧ (g < w.heap.size → (Value.slice a2 ss.length c2).ownBlock = some g ∨ (Value.slice a3 ss.length c3).ownBlock = some g) := by
  cases h3 : (Value.slice a3 ss.length c3).ownBlock with
  | some g =>
    have h4 := hk2.o3.lt g h3
    refine ⟨g, h4.2, by omega, fun e' => ?_, .inr rfl, by omega, fun _ => .inr rfl⟩
    exact (hk2.a2s (.slice gs l.length cps) (by simp)).2 g h3 e'
  | none =>
    obtain ⟨q, cq, rfl, h4, h5⟩ := own_form hk2.o2 (by simp)
    refine ⟨q, h5, by omega, fun e' => ?_, .inl rfl, by omega, fun hlt => .inl (hv2b q rfl hlt)⟩
    exact (hk2.a2s (.slice gs l.length cps) (by simp)).1 q rfl e'
 have hs3 : w3.ownsRow (b+1) 9 1 (.slice gs l.length cps) l.length (txs l) := hk2.s2 ss.length _ l (by simp) (by rw [hk.hl]; simp)
 have hC3 : ∀ w' : World, But g w3 w' → w'.cell? ⟨b, 1, none⟩ = some (.slice a3 ss.length c3) := fun w' hp => by
  have := (hp.row hr3 (by omega)).cell 1 (by have := HX.out; simp; omega)
  rw [← List.getElem?_eq_getElem, List.getElem?_set_ne (by decide), H3.out] at this
  exact this
 have hCP : ∀ w' : World, But g w3 w' → Calls Tryz.prog 38 #[.slice gs l.length cps] w' fun e w'' => ∃ v', e = .returned v' ∧ IsRowCp g w3.heap.size l v' w'' ∧ Pu w' w'' := fun w' hp => by
  have hg' : w3.grownBy w' (some g) := ⟨hp.os, hp.tape, hp.output, hp.size, fun k hk hne => hp.block k hk (fun e => hne (by rw [e]))⟩
  exact copyCp g w3.heap.size _ l w' (LT.own (hs3.kept hg' (.inr hgs')) rfl HL1.out) hgw hp.size
 have HC3 := Lib.hid hC3
 have HCP := Lib.hid hCP
 have HK := Lib.hid hk2
 have HR := Lib.hid hr3
 have HHK := Lib.hid hk
 have HG3 := Lib.hid hg3
 have cS : ∀ args w, (callFunc 38 args).run Tryz.prog w = .ok (.enter 38 args) w := fun args w => run_callFunc_body Tryz.func38 (by kernel_rfl) (by kernel_rfl) args w
 clear hC3 hCP hk2 hr3 hs3 hk hg3
 have hb3 : b < w3.heap.size := HR.out.lt
 have hw3s : w.heap.size ≤ w3.heap.size := hb2.size
 apply region_writer (g := g) (n := 11) (hn := by kernel_rfl) (hlast := rfl) (hU := by kernel_rfl) (Φ1 := (Is _ :: Is _ :: Is _ :: Is _ :: Is _ :: Is _ :: IsRowCp g w3.heap.size l :: IsRowCpS g w3.heap.size l :: [])) (Φm := IsRowMid w3.heap.size b e (ss.length + 1) (xs.set 0 v2') v2' (.slice a3 ss.length c3) (ss ++ [.slice gs l.length cps]) cs (ls ++ [l]) (ls ++ [l])) (Φ2 := (Is _ :: Is _ :: [])) (hm := by kernel_rfl) (hE := by kernel_rfl) (hD := by kernel_rfl) (hsize := by kernel_rfl)
 case hop =>
  refine ⟨?_, ?_, ?_, ?_, ?_, ?_, ?_, ?_, ?_, ?_, ?_, trivial⟩
  · intro a' w' hs hp he
    have hp : But g _ w' := hp
    have e0 := hs 0 (by kernel_rfl)
    try simp [Is, Region.binds] at he
    exact op_v
  · intro a' w' hs hp he
    have hp : But g _ w' := hp
    have e0 := hs 0 (by kernel_rfl)
    try simp [Is, Region.binds] at he
    exact op_v
  · intro a' w' hs hp he
    have hp : But g _ w' := hp
    try simp [Is, Region.binds] at he
    exact op_v
  · intro a' w' hs hp he
    have hp : But g _ w' := hp
    try simp [Is, Region.binds] at he
    exact op_v
  · intro a' w' hs hp he
    have hp : But g _ w' := hp
    try simp [Is, Region.binds] at he
    have hc := HC3.out _ hp; exact op_val rfl (wanted_none rfl) (by first | (go_simp; done) | (go_simp; rfl)) rfl (Pu.refl _)
  · intro a' w' hs hp he
    have hp : But g _ w' := hp
    have e1 := hs 1 (by kernel_rfl)
    try simp [Is, Region.binds] at he
    exact op_v
  · intro a' w' hs hp he
    have hp : But g _ w' := hp
    try simp [Is, Region.binds] at he
    exact op_callQ (HCP.out _ hp) rfl (wanted_none rfl) (by first | (go_simp; done) | (go_simp; rfl)) rfl
  · intro a' w' hs hp he
    have hp : But g _ w' := hp
    try simp [Is, Region.binds] at he
    obtain ⟨k, cp, hv, hgB, ho⟩ := he; exact op_val rfl (wanted_none rfl) (by first | (go_simp; done) | (go_simp; rfl)) ⟨_, _, rfl, .slice k l.length cp, Row.new _ #[.slice k l.length cp] _, by have := hp.size; omega, k, cp, rfl, hgB, ho.alloc _⟩ ((Pu.refl _).alloc _)
  · intro a' w' hs hp he
    have hp : Pu _ w' := hp
    try simp [Is, Region.binds] at he
    obtain ⟨h24, ⟨k, cp, hv, c, hrow, hkg, hcp⟩, -⟩ := he; refine op_mid ?a1 b e (xs.set 0 v2') v2' _ (ss ++ [.slice gs l.length cps]) cs (ls ++ [l]) ls l g w3 w' HR.out HK.out hp hgw HG3.out (ss.length) HCL.out hm (by simp [HCL.out]) (.tmp 24) (.tmp 27) ?a2 ?a3 (by simpa [Act.eval] using h24) ⟨k, 0, none⟩ cp (by simpa [Act.eval] using hv) c (cell_row hrow) hcp ?a4; exact rfl; exact rfl; exact rfl; exact rfl
  · intro a' w' hs hp he
    have hp : But g _ w' := hp
    try simp [Is, Region.binds] at he
    exact op_v
  · intro a' w' hs hp he
    have hp : But g _ w' := hp
    try simp [Is, Region.binds] at he
    exact op_v
 case hend =>
  intro a' w' hdef hsz hs hp hall
  obtain ⟨r0, r1, r2, r3, r4, r5, r6, r7, r8, r9, r10, -⟩ := hall
  obtain ⟨g6, cap6, rv6, row6⟩ := r6
  obtain ⟨g7, cap7, rv7, row7⟩ := r7
  obtain ⟨g8, cap8, rv8, row8⟩ := r8
  have hA := agree_done (agree_step (agree_step (agree_step (agree_step (agree_step (agree_step (agree_step (agree_step (agree_step (agree_step (agree_step (agree_initL [20, 21, 22, 23, 24, 25, 26, 27, 28, 29, 30] hsz hs (by kernel_rfl)) r0) r1) r2) r3) r4) r5) rv6) rv7) rv8) r9) r10)
  have ha := act_of hA hdef
  rw [ha]
  clear ha hA hs hsz hdef r0 r1 r2 r3 r4 r5 r9 r10 rv6 rv7 rv8
  (try simp only [List.setIfInBounds_toArray])
  (try dsimp only [List.set_cons_zero, List.set_cons_succ])
  (try simp only [Exit.then])
  obtain ⟨c8, hr8, hk8, hat8, hc8⟩ := row8; have f3 := hr8.frozen 1 (by have := HX.out; simp; omega); have hr9 := hr8.set 1 (.slice (some ⟨g8, 0, none⟩) (ss.length + 1) cap8); have hk9 := hk8.store 1 (.slice (some ⟨g8, 0, none⟩) (ss.length + 1) cap8); obtain ⟨u33, c33⟩ : ∃ u, w'.cell? ⟨b, 1, none⟩ = some u := ⟨_, hr8.cell 1 (by have := HX.out; simp; omega)⟩
  refine op_done rfl (wanted_none rfl) (by first | (go_simp; done) | (go_simp; rfl)) ?_
  (try simp only [Exit.inBlock, Exit.then])
  have hb9 : Below b w (w'.setCell ⟨b, 1, none⟩ (.slice (some ⟨g8, 0, none⟩) (ss.length + 1) cap8)) := by
   refine (hb2.trans ⟨hp.os, hp.tape, hp.output, hp.size, fun k hk => hp.block k (by omega) (by omega)⟩).setCell (Nat.le_refl _) _
  go_end0
  have hcg9 := (hcg2.andThen (Cg.ofBut (G := fun k => k = g) hp rfl) (fun k hk0 => by
   subst hk0
   by_cases hlt : k < w.heap.size
   · rcases hgin hlt with h | h
     · exact .inl (.inr (.inl h))
     · exact .inl (.inr (.inr h))
   · exact .inr (by omega))).trans (Cg.ofBut (But.set w' 1 (.slice (some ⟨g8, 0, none⟩) (ss.length + 1) cap8)) (.inl rfl))
  have hx := HX.out
  exact ⟨rfl, _, _, _, c8, hr9, (HN.out.set 0 _ (.inl rfl)).set 1 _ (.inr rfl), by rw [List.getElem?_set_ne (by decide), List.getElem?_set_self (by omega)], by rw [List.getElem?_set_self (by simp; omega)], hk9, hb9, by rw [HCL.out]; exact hcg9, fun k hk0 => (by
   by_cases hlt : k < w.heap.size
   · exact .inl (hv2b k hk0 hlt)
   · exact .inr (by omega)), fun k hk0 => (by
   obtain rfl : g8 = k := by simpa [Value.ownBlock] using hk0
   by_cases hlt : g8 < w3.heap.size
   · exact .inl (by rw [HCL.out]; exact hat8 hlt)
   · exact .inr (by have := hw3s; omega)), fun k hk0 => Nat.le_trans hw3s (hc8 k hk0)⟩
end Go.Proofs.YtoakccknimoogaaGreat
