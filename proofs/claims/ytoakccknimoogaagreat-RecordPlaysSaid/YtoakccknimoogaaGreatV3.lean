/- Package escutcheonbook: the lists that a book keeps are apart. Package escutcheonbook: of the kinds of which nothing was kept. Printed by program (booknil.py). Package escutcheonbook: a book that keeps nothing. Chapter 13: RecordPlays: an Out, an In, the document's In, the records that were sealed and the lists that are kept. -/
import Derived.Test.YtoakccknimoogaaGreatV2
set_option linter.unusedSimpArgs false
set_option linter.unusedVariables false
set_option linter.unusedSimpArgs false
set_option linter.unusedVariables false
namespace Go.Proofs.YtoakccknimoogaaGreat
open Go.RowKit Go.Esc
theorem SL.own {w : World} {B n : Nat} {v : Value} {vs : List Value} (h : w.ownsRow B 31 1 v n vs) (hl : vs.length = n) (h0 : 0 < n) (hm : n ≤ 250) : SL w v vs := by
 obtain ⟨g, cap, rfl, _, hg⟩ := own_form h h0
 subst hl
 exact ⟨g, cap, rfl, hm, hg, fun j u hj => by
  have hjl := (List.getElem?_eq_some_iff.1 hj).1
  rw [h.cellAt j (by omega)]; exact hj⟩
theorem SL.cg {G : Nat → Prop} {w w' : World} {v : Value} {vs : List Value} (h : SL w v vs) (hp : Cg G w w') (hk : ∀ g, v.ownBlock = some g → ¬ G g) : SL w' v vs := by
 obtain ⟨g, cap, rfl, hm, hg, hc⟩ := h
 exact ⟨g, cap, rfl, hm, Nat.lt_of_lt_of_le hg hp.size, fun j u hj => by rw [hp.cell hg (hk g rfl)]; exact hc j u hj⟩
set_option maxRecDepth 100000 in
set_option maxHeartbeats 3200000 in
theorem bookApart (b : Nat) (e : TypeId) (xs : List Value) (v2 v3 : Value) (ss cs : List Value) (ls : List (List Bs)) (w : World) (hr : Row w b e xs) (hn : NilsT xs) (h2 : xs[0]? = some v2) (h3 : xs[1]? = some v3)
 (hk : Kp w b v2 v3 ss cs ls ls) (h0 : 0 < ss.length) (hm : ss.length ≤ 250) (hl : ∀ l ∈ ls, l.length ≤ 900) :
 Calls Tryz.prog 18 #[.pointer (some ⟨b, 0, none⟩)] w fun e' w' => e' = .returned (.bool true) ∧ Below b w w' := by
 obtain ⟨a2, q2, rfl, -⟩ := own_slice hk.o2
 obtain ⟨G, hG⟩ : ∃ G : Nat → Prop, G = fun g => ∃ (j : Nat) (v : Value), ss[j]? = some v ∧ v.ownBlock = some g := ⟨_, rfl⟩
 have hG' : ∀ g, G g ↔ ∃ (j : Nat) (v : Value), ss[j]? = some v ∧ v.ownBlock = some g := fun g => by rw [hG]
 clear hG
 have hx : xs.length = 14 := hn.1
 have hcl : cs.length = ss.length := by rw [hk.hk, hk.hl]
 have hGb : ∀ g, G g → b + 1 ≤ g ∧ g < w.heap.size := fun g hg => by
  obtain ⟨j, v, hj, hv⟩ := (hG' g).1 hg
  exact hk.lt2 v (List.mem_of_getElem? hj) g hv
 have hnb : ¬ G b := fun hg => by have := (hGb b hg).1; omega
 have hG2 : ∀ g, (Value.slice a2 ss.length q2).ownBlock = some g → ¬ G g := fun g h hg => by
  obtain ⟨j, v, hj, hv⟩ := (hG' g).1 hg
  exact (hk.a2s v (List.mem_of_getElem? hj)).1 g h hv
 have hpw : ∀ (i j : Nat) (s t : Value), i ≠ j → ss[i]? = some s → ss[j]? = some t → s.ownBlock = none ∨ s.ownBlock ≠ t.ownBlock := fun i j s t hij hs ht => (hk.pw j i t s (fun e => hij e.symm) ht hs).ne
 obtain ⟨n, hnn⟩ : ∃ n : Nat → Nat, n = fun j => (ls.getD j []).length := ⟨_, rfl⟩
 have hn1 : ∀ j, j < ss.length → n j ≤ 900 := fun j hj => by
  rw [hnn]
  have : ls.getD j [] ∈ ls := by rw [List.getD_eq_getElem?_getD, List.getElem?_eq_getElem (by rw [← hk.hl]; exact hj)]; exact List.getElem_mem _
  exact hl _ this
 have hls : ∀ (j : Nat) (v : Value), ss[j]? = some v → ls[j]? = some (ls.getD j []) := fun j v hj => by
  have hjl := (List.getElem?_eq_some_iff.1 hj).1
  rw [List.getD_eq_getElem?_getD, List.getElem?_eq_getElem (by rw [← hk.hl]; exact hjl)]; rfl
 have hfx : ∀ w' : World, w.heap.size ≤ w'.heap.size → Fix G w' ss := fun w' hw => ⟨fun g hg => Nat.lt_of_lt_of_le (hGb g hg).2 hw, fun j v g hj hv => (hG' g).2 ⟨j, v, hj, hv⟩, hpw⟩
 have s2 : SL w (.slice a2 ss.length q2) ss := SL.own hk.o2 rfl h0 hm
 have s3 : SL w v3 cs := SL.own hk.o3 rfl (by omega) (by omega)
 have hst := stillTextsK b e xs _ v3 ss cs w hr h2 h3 s2 s3 hcl (fun j v u hj hu => by
  have hjl := (List.getElem?_eq_some_iff.1 hj).1
  have h1 := hn1 j hjl
  rw [hnn] at h1
  dsimp only at h1
  refine ⟨_, LT.own (hk.s2 j v _ hj (hls j v hj)) rfl (by omega), LT.own (hk.s3 j u _ hu (hls j v hj)) rfl (by omega)⟩)
 have hpt : ∀ w1, Pu w w1 → Calls Tryz.prog 47 #[.pointer (some ⟨b, 0, none⟩)] w1 fun e w' => e = .returned (.tuple #[]) ∧ Cg G w1 w' ∧ ∀ (j : Nat) (v : Value), ss[j]? = some v → w'.ownsRow 0 9 1 v (n j) (mkT j (n j)) := fun w1 hp => by
  refine (putTextsK G b e xs _ ss (fun j => ls.getD j []) w1 (hr.pu hp) h2 (s2.pu hp) hnb hG2 (fun j v g hj hv => (hG' g).2 ⟨j, v, hj, hv⟩) (fun g hg => Nat.lt_of_lt_of_le (hGb g hg).2 hp.size) hpw (fun j hj => by have := hn1 j hj; rw [hnn] at this; dsimp only at this; omega) (fun j v hj => ownB (own_puQ (hk.s2 j v _ hj (hls j v hj)) hp) (Nat.zero_le _))).mono ?_
  rintro e' w' ⟨rfl, hc, ho⟩
  refine ⟨rfl, hc, fun j v hj => ?_⟩
  have := ho j v hj
  have hjl := (List.getElem?_eq_some_iff.1 hj).1
  simp only [doneL, if_pos hjl, marksT_length] at this
  rw [hnn]; exact this
 have hgr : ∀ w1 w2, Pu w w1 → Cg G w1 w2 → (∀ (j : Nat) (v : Value), ss[j]? = some v → w2.ownsRow 0 9 1 v (n j) (mkT j (n j))) → Calls Tryz.prog 53 #[.pointer (some ⟨b, 0, none⟩)] w2 fun e w' => ∃ vo us, e = .returned vo ∧ us.length = ss.length ∧ Gs G 9 31 mkT n w2 w' ss ss.length ss.length vo us := fun w1 w2 hp hc ho =>
  growTextsK G b e xs _ ss n w2 (hc.row (hr.pu hp) hnb) h2 ((s2.pu hp).cg hc hG2) hnb hG2 (hfx w2 (Nat.le_trans hp.size hc.size)) hn1 ho
 have hma : ∀ w1 w2 w3 vo us, Pu w w1 → Cg G w1 w2 → us.length = ss.length → Gs G 9 31 mkT n w2 w3 ss ss.length ss.length vo us → (∀ w4, Pu w3 w4 → Calls Tryz.prog 60 #[vo] w4 fun e w' => e = .returned (.bool true) ∧ Pu w4 w') ∧ (∀ w4, Pu w3 w4 → Calls Tryz.prog 60 #[.slice a2 ss.length q2] w4 fun e w' => e = .returned (.bool true) ∧ Pu w4 w') ∧ Row w3 b e xs ∧ Below b w w3 := fun w1 w2 w3 vo us hp hc hul hg => by
  refine ⟨fun w4 hp4 => ?_, fun w4 hp4 => ?_, hg.cg.row (hc.row (hr.pu hp) hnb) hnb, Cg.below (Cg.below (Below.mono hp (by have := hr.lt; omega)) hc (fun g hg => by have := (hGb g hg).1; omega) (by have := hr.lt; have := hp.size; omega)) hg.cg (fun g hg => by have := (hGb g hg).1; omega) (by have := hr.lt; have := hp.size; have := hc.size; omega)⟩
  · refine markedTextsK vo us w4 (SL.own (own_puQ hg.own hp4) rfl (by omega) (by omega)) fun j u hj => ?_
    have hjl := (List.getElem?_eq_some_iff.1 hj).1
    have h1 := hn1 j (by omega)
    refine ⟨n j + 72, by omega, HL.li ((hg.new j u hj).1.pu hp4) (by rw [marksT_length]; omega)⟩
  · refine markedTextsK _ ss w4 ((((s2.pu hp).cg hc hG2).cg hg.cg hG2).pu hp4) fun j u hj => ?_
    have hjl := (List.getElem?_eq_some_iff.1 hj).1
    have h1 := hn1 j (by omega)
    refine ⟨n j, by omega, HL.li ((hg.old j u (by omega) hj).pu hp4) (by rw [marksT_length]; omega)⟩
 have HST := Lib.hid hst
 have HPT := Lib.hid hpt
 have HGR := Lib.hid hgr
 have HMA := Lib.hid hma
 have H2 := Lib.hid h2
 have HNB := Lib.hid hnb
 have HN := Lib.hid hn
 clear hst hpt hgr hma h2 h3 hk hcl hGb hG2 hpw hnn hn1 hls hfx s2 s3 hG' hnb hl hn
 have hx2 : (0 : Nat) < xs.length := by omega
 have HX := Lib.hid hx
 clear hx hx2
 go_enter Tryz.func18, Tryz.ntmps18
 go_wp2_with (first
  | (go_at_call 39; refine HST.out.mono ?_; rintro e0 w1 ⟨rfl, hp1⟩; have hr1 := hr.pu hp1)
  | (go_at_call 40; refine (stillIntsT b e xs _ hr1 HN.out).mono ?_; rintro e0 w0 ⟨rfl, rfl⟩)
  | (go_at_call 41; refine (stillRulesT b e xs _ hr1 HN.out).mono ?_; rintro e0 w0 ⟨rfl, rfl⟩)
  | (go_at_call 42; refine (stillNotesT b e xs _ hr1 HN.out).mono ?_; rintro e0 w0 ⟨rfl, rfl⟩)
  | (go_at_call 43; refine (stillItemsT b e xs _ hr1 HN.out).mono ?_; rintro e0 w0 ⟨rfl, rfl⟩)
  | (go_at_call 44; refine (stillCommandsT b e xs _ hr1 HN.out).mono ?_; rintro e0 w0 ⟨rfl, rfl⟩)
  | (go_at_call 45; refine (stillRepliesT b e xs _ hr1 HN.out).mono ?_; rintro e0 w0 ⟨rfl, rfl⟩)
  | (go_at_call 46; refine (putRepliesT b e xs _ hr1 HN.out).mono ?_; rintro e0 w0 ⟨rfl, rfl⟩)
  | (go_at_call 47; refine (HPT.out _ hp1).mono ?_; rintro e0 w2 ⟨rfl, hc2, ho2⟩; have hr2 := hc2.row hr1 HNB.out)
  | (go_at_call 48; refine (putIntsT b e xs _ hr2 HN.out).mono ?_; rintro e0 w0 ⟨rfl, rfl⟩)
  | (go_at_call 49; refine (putRulesT b e xs _ hr2 HN.out).mono ?_; rintro e0 w0 ⟨rfl, rfl⟩)
  | (go_at_call 50; refine (putNotesT b e xs _ hr2 HN.out).mono ?_; rintro e0 w0 ⟨rfl, rfl⟩)
  | (go_at_call 51; refine (putItemsT b e xs _ hr2 HN.out).mono ?_; rintro e0 w0 ⟨rfl, rfl⟩)
  | (go_at_call 52; refine (putCommandsT b e xs _ hr2 HN.out).mono ?_; rintro e0 w0 ⟨rfl, rfl⟩)
  | (go_at_call 53; refine (HGR.out _ _ hp1 hc2 ho2).mono ?_; rintro e0 w3 ⟨vo, us, rfl, hul, hgs⟩
     obtain ⟨hm1, hm2, hr3, hb3⟩ := HMA.out _ _ _ _ _ hp1 hc2 hul hgs
     have HM1 := Lib.hid hm1
     have HM2 := Lib.hid hm2
     clear hm1 hm2 hgs)
  | (go_at_call 54; refine (growIntsT b e xs _ hr3 HN.out).mono ?_; rintro e0 w0 ⟨rfl, rfl⟩)
  | (go_at_call 55; refine (growRulesT b e xs _ hr3 HN.out).mono ?_; rintro e0 w0 ⟨rfl, rfl⟩)
  | (go_at_call 56; refine (growNotesT b e xs _ hr3 HN.out).mono ?_; rintro e0 w0 ⟨rfl, rfl⟩)
  | (go_at_call 57; refine (growItemsT b e xs _ hr3 HN.out).mono ?_; rintro e0 w0 ⟨rfl, rfl⟩)
  | (go_at_call 58; refine (growCommandsT b e xs _ hr3 HN.out).mono ?_; rintro e0 w0 ⟨rfl, rfl⟩)
  | (go_at_call 59; refine (growRepliesT b e xs _ hr3 HN.out).mono ?_; rintro e0 w0 ⟨rfl, rfl⟩)
  | (go_at_call 60; refine (HM1.out _ (Pu.refl _)).mono ?_; rintro e0 w4 ⟨rfl, hp4⟩; clear HM1; have hr4 := hr3.pu hp4; have c0 := hr4.cell 0 (by have := HX.out; omega); rw [← List.getElem?_eq_getElem, H2.out] at c0)
  | (go_at_call 60; refine (HM2.out _ hp4).mono ?_; rintro e0 w5 ⟨rfl, hp5⟩; clear HM2; have hr5 := hr4.pu hp5; have c2 := HN.out.cell hr5 2 (by decide) (by decide) (by decide); have c4 := HN.out.cell hr5 4 (by decide) (by decide) (by decide); have c6 := HN.out.cell hr5 6 (by decide) (by decide) (by decide); have c8 := HN.out.cell hr5 8 (by decide) (by decide) (by decide); have c10 := HN.out.cell hr5 10 (by decide) (by decide) (by decide); have c12 := HN.out.cell hr5 12 (by decide) (by decide) (by decide))
  | (go_at_call 61; refine (markedIntsT _).mono ?_; rintro e0 w0 ⟨rfl, rfl⟩)
  | (go_at_call 62; refine (markedRulesT _).mono ?_; rintro e0 w0 ⟨rfl, rfl⟩)
  | (go_at_call 63; refine (markedNotesT _).mono ?_; rintro e0 w0 ⟨rfl, rfl⟩)
  | (go_at_call 64; refine (markedItemsT _).mono ?_; rintro e0 w0 ⟨rfl, rfl⟩)
  | (go_at_call 65; refine (markedCommandsT _).mono ?_; rintro e0 w0 ⟨rfl, rfl⟩)
  | (go_at_call 66; refine (markedRepliesT _).mono ?_; rintro e0 w0 ⟨rfl, rfl⟩))
 go_ret
 exact ⟨rfl, hb3.trans (Below.mono (hp4.trans hp5) (by have := hr3.lt; omega))⟩
end Go.Proofs.YtoakccknimoogaaGreat
set_option linter.unusedSimpArgs false
set_option linter.unusedVariables false
namespace Go.Proofs.YtoakccknimoogaaGreat
open Go.RowKit Go.Esc
/-- A book: each kind's two lists. -/
def Nils (xs : List Value) : Prop := xs.length = 14 ∧ ∀ k, k < 14 → k ≠ 2 → k ≠ 3 → xs[k]? = some (.slice none 0 0)
theorem Nils.cell {w : World} {b : Nat} {e : TypeId} {xs : List Value} (h : Nils xs) (hr : Row w b e xs) (k : Nat) (hk : k < 14) (h2 : k ≠ 2) (h3 : k ≠ 3) : w.cell? ⟨b, k, none⟩ = some (.slice none 0 0) := by
 have := hr.cell k (by rw [h.1]; exact hk)
 rw [this, ← List.getElem?_eq_getElem, h.2 k hk h2 h3]
set_option maxRecDepth 100000 in
theorem stillTexts (b : Nat) (e : TypeId) (xs : List Value) (w : World) (hr : Row w b e xs) (hn : Nils xs) :
 Calls Tryz.prog 39 #[.pointer (some ⟨b, 0, none⟩)] w fun e w' => e = .returned (.bool true) ∧ w' = w := by
 have c := hn.cell hr 0 (by decide) (by decide) (by decide)
 clear hr hn
 go_enter Tryz.func39, Tryz.ntmps39
 go_wp2_with fail
 go_loop [3] (fun i => i = .int .i64 0) (fun _ => 0)
 case atStart => rfl
 case round =>
  obtain rfl := hrel
  go_wp2_with fail
  go_ret
  exact ⟨rfl, rfl⟩
set_option maxRecDepth 100000 in
theorem putTexts (b : Nat) (e : TypeId) (xs : List Value) (w : World) (hr : Row w b e xs) (hn : Nils xs) :
 Calls Tryz.prog 47 #[.pointer (some ⟨b, 0, none⟩)] w fun e w' => e = .returned (.tuple #[]) ∧ w' = w := by
 have c := hn.cell hr 0 (by decide) (by decide) (by decide)
 clear hr hn
 go_enter Tryz.func47, Tryz.ntmps47
 go_wp2_with fail
 go_loop [2] (fun i => i = .int .i64 0) (fun _ => 0)
 case atStart => rfl
 case round =>
  obtain rfl := hrel
  go_wp2_with fail
  go_end0
  exact ⟨rfl, rfl⟩
set_option maxRecDepth 100000 in
theorem growTexts (b : Nat) (e : TypeId) (xs : List Value) (w : World) (hr : Row w b e xs) (hn : Nils xs) :
 Calls Tryz.prog 53 #[.pointer (some ⟨b, 0, none⟩)] w fun e w' => e = .returned (.slice none 0 0) ∧ w' = w := by
 have c := hn.cell hr 0 (by decide) (by decide) (by decide)
 clear hr hn
 go_enter Tryz.func53, Tryz.ntmps53
 go_wp2_with fail
 go_loop [3, 4] (fun o i => o = .slice none 0 0 ∧ i = .int .i64 0) (fun _ _ => 0)
 case atStart => exact ⟨rfl, rfl⟩
 case round =>
  obtain ⟨rfl, rfl⟩ := hrel
  go_wp2_with fail
  go_ret
  exact ⟨rfl, rfl⟩
set_option maxRecDepth 100000 in
theorem markedTexts (w : World) :
 Calls Tryz.prog 60 #[.slice none 0 0] w fun e w' => e = .returned (.bool true) ∧ w' = w := by
 go_enter Tryz.func60, Tryz.ntmps60
 go_wp2_with fail
 go_loop [3] (fun i => i = .int .i64 0) (fun _ => 0)
 case atStart => rfl
 case round =>
  obtain rfl := hrel
  go_wp2_with fail
  go_ret
  exact ⟨rfl, rfl⟩
end Go.Proofs.YtoakccknimoogaaGreat
set_option linter.unusedSimpArgs false
set_option linter.unusedVariables false
namespace Go.Proofs.YtoakccknimoogaaGreat
open Go.RowKit Go.Esc
set_option maxRecDepth 100000 in
set_option maxHeartbeats 3200000 in
theorem bookApart0 (b : Nat) (e : TypeId) (xs : List Value) (w : World) (hr : Row w b e xs) (hl : xs.length = 14) (hn : ∀ k, k < 14 → xs[k]? = some (.slice none 0 0)) :
 Calls Tryz.prog 18 #[.pointer (some ⟨b, 0, none⟩)] w fun e' w' => e' = .returned (.bool true) ∧ w' = w := by
 have h1 : Nils xs := ⟨hl, fun k hk _ _ => hn k hk⟩
 have h2 : NilsT xs := ⟨hl, fun k hk _ _ => hn k hk⟩
 have c := fun (w' : World) (h : Row w' b e xs) (k : Nat) (hk : k < 14) => (h.cell k (by rw [hl]; exact hk)).trans ((List.getElem?_eq_getElem (by rw [hl]; exact hk)).symm.trans (hn k hk))
 have c0 := c w hr 0 (by decide)
 have c2 := c w hr 2 (by decide)
 have c4 := c w hr 4 (by decide)
 have c6 := c w hr 6 (by decide)
 have c8 := c w hr 8 (by decide)
 have c10 := c w hr 10 (by decide)
 have c12 := c w hr 12 (by decide)
 have HR := Lib.hid hr
 have H1 := Lib.hid h1
 have H2 := Lib.hid h2
 clear hr hl hn h1 h2 c
 go_enter Tryz.func18, Tryz.ntmps18
 go_wp2_with (first
  | (go_at_call 39; refine (stillTexts b e xs _ HR.out H1.out).mono ?_; rintro e0 w0 ⟨rfl, hw⟩; subst hw)
  | (go_at_call 40; refine (stillIntsT b e xs _ HR.out H2.out).mono ?_; rintro e0 w0 ⟨rfl, hw⟩; subst hw)
  | (go_at_call 41; refine (stillRulesT b e xs _ HR.out H2.out).mono ?_; rintro e0 w0 ⟨rfl, hw⟩; subst hw)
  | (go_at_call 42; refine (stillNotesT b e xs _ HR.out H2.out).mono ?_; rintro e0 w0 ⟨rfl, hw⟩; subst hw)
  | (go_at_call 43; refine (stillItemsT b e xs _ HR.out H2.out).mono ?_; rintro e0 w0 ⟨rfl, hw⟩; subst hw)
  | (go_at_call 44; refine (stillCommandsT b e xs _ HR.out H2.out).mono ?_; rintro e0 w0 ⟨rfl, hw⟩; subst hw)
  | (go_at_call 45; refine (stillRepliesT b e xs _ HR.out H2.out).mono ?_; rintro e0 w0 ⟨rfl, hw⟩; subst hw)
  | (go_at_call 47; refine (putTexts b e xs _ HR.out H1.out).mono ?_; rintro e0 w0 ⟨rfl, hw⟩; subst hw)
  | (go_at_call 48; refine (putIntsT b e xs _ HR.out H2.out).mono ?_; rintro e0 w0 ⟨rfl, hw⟩; subst hw)
  | (go_at_call 49; refine (putRulesT b e xs _ HR.out H2.out).mono ?_; rintro e0 w0 ⟨rfl, hw⟩; subst hw)
  | (go_at_call 50; refine (putNotesT b e xs _ HR.out H2.out).mono ?_; rintro e0 w0 ⟨rfl, hw⟩; subst hw)
  | (go_at_call 51; refine (putItemsT b e xs _ HR.out H2.out).mono ?_; rintro e0 w0 ⟨rfl, hw⟩; subst hw)
  | (go_at_call 52; refine (putCommandsT b e xs _ HR.out H2.out).mono ?_; rintro e0 w0 ⟨rfl, hw⟩; subst hw)
  | (go_at_call 46; refine (putRepliesT b e xs _ HR.out H2.out).mono ?_; rintro e0 w0 ⟨rfl, hw⟩; subst hw)
  | (go_at_call 53; refine (growTexts b e xs _ HR.out H1.out).mono ?_; rintro e0 w0 ⟨rfl, hw⟩; subst hw)
  | (go_at_call 54; refine (growIntsT b e xs _ HR.out H2.out).mono ?_; rintro e0 w0 ⟨rfl, hw⟩; subst hw)
  | (go_at_call 55; refine (growRulesT b e xs _ HR.out H2.out).mono ?_; rintro e0 w0 ⟨rfl, hw⟩; subst hw)
  | (go_at_call 56; refine (growNotesT b e xs _ HR.out H2.out).mono ?_; rintro e0 w0 ⟨rfl, hw⟩; subst hw)
  | (go_at_call 57; refine (growItemsT b e xs _ HR.out H2.out).mono ?_; rintro e0 w0 ⟨rfl, hw⟩; subst hw)
  | (go_at_call 58; refine (growCommandsT b e xs _ HR.out H2.out).mono ?_; rintro e0 w0 ⟨rfl, hw⟩; subst hw)
  | (go_at_call 59; refine (growRepliesT b e xs _ HR.out H2.out).mono ?_; rintro e0 w0 ⟨rfl, hw⟩; subst hw)
  | (go_at_call 60; refine (markedTexts _).mono ?_; rintro e0 w0 ⟨rfl, hw⟩; subst hw)
  | (go_at_call 61; refine (markedIntsT _).mono ?_; rintro e0 w0 ⟨rfl, hw⟩; subst hw)
  | (go_at_call 62; refine (markedRulesT _).mono ?_; rintro e0 w0 ⟨rfl, hw⟩; subst hw)
  | (go_at_call 63; refine (markedNotesT _).mono ?_; rintro e0 w0 ⟨rfl, hw⟩; subst hw)
  | (go_at_call 64; refine (markedItemsT _).mono ?_; rintro e0 w0 ⟨rfl, hw⟩; subst hw)
  | (go_at_call 65; refine (markedCommandsT _).mono ?_; rintro e0 w0 ⟨rfl, hw⟩; subst hw)
  | (go_at_call 66; refine (markedRepliesT _).mono ?_; rintro e0 w0 ⟨rfl, hw⟩; subst hw))
 go_ret
 exact ⟨rfl, rfl⟩
end Go.Proofs.YtoakccknimoogaaGreat
namespace Go.Proofs.YtoakccknimoogaaGreat
open Go.RowKit Go.Esc
theorem RefAt.partsP {G : Nat → Prop} {B : Nat} {w : World} {ir : Nat} {key : Bs} {s : InS} (h : RefAt G B w ir key s) : ∃ vt a cap, Row w ir 33 [S key, .int .i64 (s.n : Int), .slice a s.c cap, vt] := by
 obtain ⟨l, vq, vt, h1, -, h3⟩ := h
 obtain ⟨a, cap, e, -⟩ := own_slice h1.oq
 refine ⟨vt, a, cap, ?_⟩
 rw [← h3, ← e]
 exact h1.row
/-- The blocks of the book, of what it keeps, and of the records. -/
def Kb (bb : Nat) (v2 v3 vL : Value) (ss cs : List Value) (g : Nat) : Prop := g = bb ∨ v2.ownBlock = some g ∨ v3.ownBlock = some g ∨ (∃ s ∈ ss, s.ownBlock = some g) ∨ (∃ c ∈ cs, c.ownBlock = some g) ∨ vL.ownBlock = some g
theorem Kp.cg {w w' : World} {b : Nat} {v2 v3 : Value} {ss cs : List Value} {ls ks : List (List Bs)} (h : Kp w b v2 v3 ss cs ls ks) {H : Nat → Prop} (hc : Cg H w w') (h2 : ∀ g, v2.ownBlock = some g → ¬ H g) (h3 : ∀ g, v3.ownBlock = some g → ¬ H g) (hs : ∀ s ∈ ss, ∀ g, s.ownBlock = some g → ¬ H g) (hk : ∀ s ∈ cs, ∀ g, s.ownBlock = some g → ¬ H g) : Kp w' b v2 v3 ss cs ls ks :=
 ⟨own_cg h.o2 hc h2, own_cg h.o3 hc h3, h.hl, h.hk, fun j s l hj hl => own_cg (h.s2 j s l hj hl) hc (hs s (List.mem_of_getElem? hj)), fun j s l hj hl => own_cg (h.s3 j s l hj hl) hc (hk s (List.mem_of_getElem? hj)), h.a23, h.a2s, h.a2c, h.pw⟩
structure Pl (Go Gi Gr : Nat → Prop) (w0 w : World) (ob ib ir bb : Nat) (key : Bs) (n m : Nat) (s sr : InS) (xs : List Value) (v2 v3 vL : Value) (ss cs : List Value) (ls : List (List Bs)) (lies : List Bs) : Prop where
 c : Cross Go Gi Gr w0 w ob ib ir key key n n m s sr
 row : Row w bb 43 xs
 nils : NilsT xs
 x0 : xs[0]? = some v2
 x1 : xs[1]? = some v3
 kp : Kp w bb v2 v3 ss cs ls ls
 ll : ∀ l ∈ ls, l.length ≤ 400
 lie : w.ownsRow w0.heap.size 9 1 vL lies.length (lies.map S)
 ml : ∀ r ∈ lies, 0 < r.length ∧ r.length ≤ 3000
 sep : ∀ g, Kb bb v2 v3 vL ss cs g → ¬ Go g ∧ ¬ Gi g ∧ ¬ Gr g
 ap : ∀ g, vL.ownBlock = some g → g ≠ bb ∧ v2.ownBlock ≠ some g ∧ v3.ownBlock ≠ some g ∧ (∀ x ∈ ss, x.ownBlock ≠ some g) ∧ ∀ x ∈ cs, x.ownBlock ≠ some g
 bw : w0.heap.size ≤ bb
 nl : ss = [] → ∀ k, k < 14 → xs[k]? = some (.slice none 0 0)
section
variable {Go Gi Gr : Nat → Prop} {w0 w w' : World} {ob ib ir bb : Nat} {key : Bs} {n m : Nat} {s sr : InS} {xs : List Value} {v2 v3 vL : Value} {ss cs : List Value} {ls : List (List Bs)} {lies : List Bs}
theorem Pl.lt (h : Pl Go Gi Gr w0 w ob ib ir bb key n m s sr xs v2 v3 vL ss cs ls lies) : ∀ g, Kb bb v2 v3 vL ss cs g → g < w.heap.size := by
 rintro g (rfl | h1 | h1 | ⟨x, hx, h1⟩ | ⟨x, hx, h1⟩ | h1)
 · exact h.row.lt
 · exact (h.kp.o2.lt g h1).2
 · exact (h.kp.o3.lt g h1).2
 · exact (h.kp.lt2 x hx g h1).2
 · exact (h.kp.lt3 x hx g h1).2
 · exact (h.lie.lt g h1).2
theorem Pl.low (h : Pl Go Gi Gr w0 w ob ib ir bb key n m s sr xs v2 v3 vL ss cs ls lies) : ∀ g, Kb bb v2 v3 vL ss cs g → w0.heap.size ≤ g := by
 have hb := h.bw
 rintro g (rfl | h1 | h1 | ⟨x, hx, h1⟩ | ⟨x, hx, h1⟩ | h1)
 · exact hb
 · have := (h.kp.o2.lt g h1).1; omega
 · have := (h.kp.o3.lt g h1).1; omega
 · have := (h.kp.lt2 x hx g h1).1; omega
 · have := (h.kp.lt3 x hx g h1).1; omega
 · exact (h.lie.lt g h1).1
/-- Something else changed. -/
theorem Pl.rest (h : Pl Go Gi Gr w0 w ob ib ir bb key n m s sr xs v2 v3 vL ss cs ls lies) {Go' Gi' Gr' H : Nat → Prop} {n' m' : Nat} {s' sr' : InS} (hc : Cg H w w') (hH : ∀ g, Kb bb v2 v3 vL ss cs g → ¬ H g) (hx : Cross Go' Gi' Gr' w0 w' ob ib ir key key n' n' m' s' sr')
 (hs : ∀ g, Kb bb v2 v3 vL ss cs g → ¬ Go' g ∧ ¬ Gi' g ∧ ¬ Gr' g) : Pl Go' Gi' Gr' w0 w' ob ib ir bb key n' m' s' sr' xs v2 v3 vL ss cs ls lies :=
 ⟨hx, hc.row h.row (hH bb (.inl rfl)), h.nils, h.x0, h.x1, h.kp.cg hc (fun g e => hH g (.inr (.inl e))) (fun g e => hH g (.inr (.inr (.inl e)))) (fun x hx g e => hH g (.inr (.inr (.inr (.inl ⟨x, hx, e⟩))))) (fun x hx g e => hH g (.inr (.inr (.inr (.inr (.inl ⟨x, hx, e⟩)))))), h.ll, own_cg h.lie hc (fun g e => hH g (.inr (.inr (.inr (.inr (.inr e)))))), h.ml, hs, h.ap, h.bw, h.nl⟩
theorem Pl.pu (h : Pl Go Gi Gr w0 w ob ib ir bb key n m s sr xs v2 v3 vL ss cs ls lies) (hp : Pu w w') : Pl Go Gi Gr w0 w' ob ib ir bb key n m s sr xs v2 v3 vL ss cs ls lies :=
 h.rest (H := fun _ => False) (Cg.ofPu hp) (fun _ _ h => h) (h.c.pu hp) h.sep
theorem plSeal (h : Pl Go Gi Gr w0 w ob ib ir bb key n m s sr xs v2 v3 vL ss cs ls lies) (hk : key.length = 32) (p pp : Bs) (hp : padL p = some pp) (hn : n < 400) (hl : p.length ≤ 140737488351232) :
 Calls Tryz.prog 9 #[.pointer (some ⟨ob, 0, none⟩), S p] w fun e w' => e = .returned (.tuple #[S (recL key n p), .int .i64 0]) ∧ Pl (Gw Go w w') Gi Gr w0 w' ob ib ir bb key (n+1) m s sr xs v2 v3 vL ss cs ls lies ∧ Cg Go w w' := by
 refine (oiSeal h.c.oi hk p pp hp hn (by omega) hl).mono ?_
 rintro e w' ⟨rfl, ho, hc⟩
 refine ⟨rfl, h.rest hc (fun g hg => (h.sep g hg).1) ⟨ho, h.c.r.cg hc (fun g h1 h2 => h.c.d g h2 (.inl h1)), fun g hg hh => ?_⟩ (fun g hg => ⟨fun hh => ?_, (h.sep g hg).2.1, (h.sep g hg).2.2⟩), hc⟩
 · rcases hh with (h1 | h1) | h1
   · exact h.c.d g hg (.inl h1)
   · have := h.c.r.dom g hg; omega
   · exact h.c.d g hg (.inr h1)
 · rcases hh with h1 | h1
   · exact (h.sep g hg).1 h1
   · have := h.lt g hg; omega
/-- A value that is nobody's. -/
def Fr (Go Gi Gr : Nat → Prop) (bb : Nat) (v2 v3 vL : Value) (ss cs : List Value) (v : Value) : Prop := ∀ g, v.ownBlock = some g → ¬ Kb bb v2 v3 vL ss cs g ∧ ¬ Go g ∧ ¬ Gi g ∧ ¬ Gr g
theorem plOpen (h : Pl Go Gi Gr w0 w ob ib ir bb key n m s sr xs v2 v3 vL ss cs ls lies) (hk : key.length = 32) (b : Bs) (hm : m ≤ 90000) (hb : b.length ≤ 90000) :
 Calls Tryz.prog 12 #[.pointer (some ⟨ib, 0, none⟩), S b] w fun e w' => ∃ v Gi', e = .returned (.tuple #[v, .int .i64 ((openS key s b).1 : Int)]) ∧ w'.ownsRow (bb+1) 9 1 v (openS key s b).2.1.length ((openS key s b).2.1.map S) ∧
  Pl Go Gi' Gr w0 w' ob ib ir bb key n (m+1) (openS key s b).2.2 sr xs v2 v3 vL ss cs ls lies ∧ Fr Go Gi' Gr bb v2 v3 vL ss cs v ∧ v.ownBlock ≠ some ir := by
 refine (oiOpen h.c.oi hk b hm hb).mono ?_
 rintro e w' ⟨v, rfl, ho, hoi, hc⟩
 have hir := h.c.r.dom _ h.c.r.gi
 refine ⟨v, _, rfl, ownB ho (by have := h.row.lt; omega), h.rest hc (fun g hg => (h.sep g hg).2.1) ⟨hoi, h.c.r.cg hc (fun g h1 h2 => h.c.d g h2 (.inr h1)), fun g hg hh => ?_⟩ (fun g hg => ⟨(h.sep g hg).1, fun hh => ?_, (h.sep g hg).2.2⟩), fun g hg => ?_, fun e => ?_⟩
 · rcases hh with h1 | ⟨h1 | h1, -⟩
   · exact h.c.d g hg (.inl h1)
   · exact h.c.d g hg (.inr h1)
   · have := h.c.r.dom g hg; omega
 · rcases hh with ⟨h1 | h1, -⟩
   · exact (h.sep g hg).2.1 h1
   · have := h.lt g hg; omega
 · have hge := (ho.lt g hg).1
   refine ⟨fun hh => ?_, fun hh => ?_, fun hh => hh.2 hg, fun hh => ?_⟩
   · have := h.lt g hh; omega
   · have := h.c.oi.o.dom g hh; omega
   · have := h.c.r.dom g hh; omega
 · have := (ho.lt ir e).1; omega
theorem plRef (h : Pl Go Gi Gr w0 w ob ib ir bb key n m s sr xs v2 v3 vL ss cs ls lies) (hs : sr.Ok) (hcc : sr.c ≤ 90000) (hk : key.length = 32) (b : Bs) (hb : b.length ≤ 90000) {v : Value} {k : Nat} {l : List Value} (hv : w.ownsRow (bb+1) 9 1 v k l) (hf : Fr Go Gi Gr bb v2 v3 vL ss cs v) (hvi : v.ownBlock ≠ some ir) :
 Calls Tryz.prog 13 #[.pointer (some ⟨ir, 0, none⟩), S b] w fun e w' => ∃ v9 Gr', e = .returned (.tuple #[v9, .int .i64 ((openS key sr b).1 : Int)]) ∧ w'.ownsRow w.heap.size 9 1 v9 (openS key sr b).2.1.length ((openS key sr b).2.1.map S) ∧
  Pl Go Gi Gr' w0 w' ob ib ir bb key n m s (openS key sr b).2.2 xs v2 v3 vL ss cs ls lies ∧ w'.ownsRow (bb+1) 9 1 v k l ∧ Fr Go Gi Gr' bb v2 v3 vL ss cs v ∧ (∀ g, Kb bb v2 v3 vL ss cs g → g < w.heap.size) ∧ w.heap.size ≤ w'.heap.size := by
 refine (crossRef h.c hs hcc hk b hb).mono ?_
 rintro e w' ⟨v9, rfl, ho, hcr, hcg⟩
 refine ⟨v9, _, rfl, ho, h.rest hcg (fun g hg e => (h.sep g hg).2.2 (e ▸ h.c.r.gi)) hcr (fun g hg => ⟨(h.sep g hg).1, (h.sep g hg).2.1, fun hh => ?_⟩), own_cg hv hcg (fun g hg e => hvi (e ▸ hg)), fun g hg => ⟨(hf g hg).1, (hf g hg).2.1, (hf g hg).2.2.1, fun hh => ?_⟩, h.lt, hcg.size⟩
 · rcases hh with h1 | h1
   · exact (h.sep g hg).2.2 h1
   · have := h.lt g hg; omega
 · rcases hh with h1 | h1
   · exact (hf g hg).2.2.2 h1
   · have := (hv.lt g hg).2; omega
theorem Cross.cg (h : Cross Go Gi Gr w0 w ob ib ir key key n n m s sr) {H : Nat → Prop} (hc : Cg H w w') (hH : ∀ g, H g → ¬ Go g ∧ ¬ Gi g ∧ ¬ Gr g ∧ w0.heap.size ≤ g) : Cross Go Gi Gr w0 w' ob ib ir key key n n m s sr :=
 ⟨h.oi.cg hc (fun g hg => (hH g hg).1) (fun g hg => (hH g hg).2.1) (fun g hg => (hH g hg).2.2.2), h.r.cg hc (fun g hg => (hH g hg).2.2.1), h.d⟩
/-- One more record. -/
theorem Pl.push (h : Pl Go Gi Gr w0 w ob ib ir bb key n m s sr xs v2 v3 vL ss cs ls lies) {vL' : Value} {r : Bs} (hr : 0 < r.length ∧ r.length ≤ 3000) (ho : w'.ownsRow w0.heap.size 9 1 vL' (lies.length + 1) (lies.map S ++ [S r])) (hg : w.grownBy w' vL.ownBlock) (hat : vL'.ownBlock = vL.ownBlock ∨ vL'.ownBlock = some w.heap.size) :
 Pl Go Gi Gr w0 w' ob ib ir bb key n m s sr xs v2 v3 vL' ss cs ls (lies ++ [r]) := by
 have hc : Cg (fun g => vL.ownBlock = some g) w w' := ⟨hg.os, hg.tape, hg.output, hg.size, fun k hk hn => hg.block k hk (fun e => hn e.symm)⟩
 have hin : ∀ g, vL.ownBlock = some g → Kb bb v2 v3 vL ss cs g := fun g e => .inr (.inr (.inr (.inr (.inr e))))
 have hnew : ∀ g, vL'.ownBlock = some g → vL.ownBlock = some g ∨ g = w.heap.size := fun g e => by
  rcases hat with h1 | h1
  · exact .inl (h1 ▸ e)
  · rw [h1] at e; cases e; exact .inr rfl
 have hx : Cross Go Gi Gr w0 w' ob ib ir key key n n m s sr := h.c.cg hc (fun g e => ⟨(h.sep g (hin g e)).1, (h.sep g (hin g e)).2.1, (h.sep g (hin g e)).2.2, h.low g (hin g e)⟩)
 refine ⟨hx, hc.row h.row (fun e => (h.ap bb e).1 rfl), h.nils, h.x0, h.x1, h.kp.cg hc (fun g e e' => (h.ap g e').2.1 e) (fun g e e' => (h.ap g e').2.2.1 e) (fun x hx g e e' => (h.ap g e').2.2.2.1 x hx e) (fun x hx g e e' => (h.ap g e').2.2.2.2 x hx e), h.ll, by simpa using ho, fun y hy => ?_, fun g hg9 => ?_, fun g e => ?_, h.bw, h.nl⟩
 · rcases List.mem_append.1 hy with h1 | h1
   · exact h.ml y h1
   · simp at h1; subst h1; exact hr
 · have hcase : Kb bb v2 v3 vL ss cs g ∨ g = w.heap.size := by
    rcases hg9 with h1 | h1 | h1 | h1 | h1 | h1
    · exact .inl (.inl h1)
    · exact .inl (.inr (.inl h1))
    · exact .inl (.inr (.inr (.inl h1)))
    · exact .inl (.inr (.inr (.inr (.inl h1))))
    · exact .inl (.inr (.inr (.inr (.inr (.inl h1)))))
    · rcases hnew g h1 with h2 | h2
      · exact .inl (hin g h2)
      · exact .inr h2
   rcases hcase with h1 | h1
   · exact h.sep g h1
   · refine ⟨fun hh => ?_, fun hh => ?_, fun hh => ?_⟩
     · have := h.c.oi.o.dom g hh; omega
     · have := h.c.oi.i.dom g hh; omega
     · have := h.c.r.dom g hh; omega
 · rcases hnew g e with h1 | h1
   · exact h.ap g h1
   · subst h1
     refine ⟨fun e => ?_, fun e => ?_, fun e => ?_, fun y hy e => ?_, fun y hy e => ?_⟩
     · have := h.row.lt; omega
     · have := (h.kp.o2.lt _ e).2; omega
     · have := (h.kp.o3.lt _ e).2; omega
     · have := (h.kp.lt2 y hy _ e).2; omega
     · have := (h.kp.lt3 y hy _ e).2; omega
/-- One more list is kept. -/
theorem plKeep (h : Pl Go Gi Gr w0 w ob ib ir bb key n m s sr xs v2 v3 vL ss cs ls lies) {v : Value} {l : List Bs} (hv : w.ownsRow (bb+1) 9 1 v l.length (txs l)) (hf : Fr Go Gi Gr bb v2 v3 vL ss cs v) (hl : l.length ≤ 400) (hm : ss.length < 250) :
 Calls Tryz.prog 14 #[.pointer (some ⟨bb, 0, none⟩), v] w fun e w' => e = .returned (.tuple #[]) ∧ ∃ xs' v2' v3' c, Pl Go Gi Gr w0 w' ob ib ir bb key n m s sr xs' v2' v3' vL (ss ++ [v]) (cs ++ [c]) (ls ++ [l]) lies ∧ Cg (fun g => Kb bb v2 v3 vL ss cs g) w w' := by
 have hk : ∀ g, v.ownBlock = some g → ¬ Kb bb v2 v3 vL ss cs g := fun g e => (hf g e).1
 refine (keepTexts bb _ xs v2 v3 v ss cs ls l w h.row h.nils h.x0 h.x1 h.kp hm (by omega) hv (fun g e e' => hk g e' (.inr (.inl e))) (fun g e e' => hk g e' (.inr (.inr (.inl e)))) (fun t ht g e e' => hk g e' (.inr (.inr (.inr (.inl ⟨t, ht, e⟩)))))).mono ?_
 rintro e w' ⟨rfl, xs', v2', v3', c, hr, hn, h0, h1, hkp, hb, hcg, n2, n3, nc⟩
 have hin : ∀ g, (g = bb ∨ v2.ownBlock = some g ∨ v3.ownBlock = some g) → Kb bb v2 v3 vL ss cs g := by
  rintro g (e | e | e)
  · exact .inl e
  · exact .inr (.inl e)
  · exact .inr (.inr (.inl e))
 have hx := h.c.cg hcg (fun g e => ⟨(h.sep g (hin g e)).1, (h.sep g (hin g e)).2.1, (h.sep g (hin g e)).2.2, h.low g (hin g e)⟩)
 refine ⟨rfl, xs', v2', v3', c, ⟨hx, hr, hn, h0, h1, hkp, fun y hy => ?_, own_cg h.lie hcg (fun g e hh => ?_), h.ml, fun g hg => ?_, fun g e => ?_, h.bw, fun e => (by simp at e)⟩, hcg.mono hin⟩
 · rcases List.mem_append.1 hy with h2 | h2
   · exact h.ll y h2
   · simp at h2; subst h2; exact hl
 · obtain ⟨a1, a2, a3, -⟩ := h.ap g e
   rcases hh with e | e | e
   · exact a1 e
   · exact a2 e
   · exact a3 e
 · have hnew : w.heap.size ≤ g → ¬ Go g ∧ ¬ Gi g ∧ ¬ Gr g := fun hle => ⟨fun hh => by have := h.c.oi.o.dom g hh; omega, fun hh => by have := h.c.oi.i.dom g hh; omega, fun hh => by have := h.c.r.dom g hh; omega⟩
   rcases hg with h2 | h2 | h2 | ⟨y, hy, h2⟩ | ⟨y, hy, h2⟩ | h2
   · exact h.sep g (.inl h2)
   · rcases n2 g h2 with h3 | h3
     · exact h.sep g (.inr (.inl h3))
     · exact hnew h3
   · rcases n3 g h2 with h3 | h3
     · exact h.sep g (.inr (.inr (.inl h3)))
     · exact hnew h3
   · rcases List.mem_append.1 hy with h3 | h3
     · exact h.sep g (.inr (.inr (.inr (.inl ⟨y, h3, h2⟩))))
     · simp at h3; subst h3; exact (hf g h2).2
   · rcases List.mem_append.1 hy with h3 | h3
     · exact h.sep g (.inr (.inr (.inr (.inr (.inl ⟨y, h3, h2⟩)))))
     · simp at h3; subst h3; exact hnew (nc g h2)
   · exact h.sep g (.inr (.inr (.inr (.inr (.inr h2)))))
 · obtain ⟨a1, a2, a3, a4, a5⟩ := h.ap g e
   have hlt := (h.lie.lt g e).2
   refine ⟨a1, fun e' => ?_, fun e' => ?_, fun y hy e' => ?_, fun y hy e' => ?_⟩
   · rcases n2 g e' with h3 | h3
     · exact a2 h3
     · omega
   · rcases n3 g e' with h3 | h3
     · exact a3 h3
     · omega
   · rcases List.mem_append.1 hy with h3 | h3
     · exact a4 y h3 e'
     · simp at h3; subst h3; exact hk g e' (.inr (.inr (.inr (.inr (.inr e)))))
   · rcases List.mem_append.1 hy with h3 | h3
     · exact a5 y h3 e'
     · simp at h3; subst h3; have := nc g e'; omega
end
def xsT : List Value := List.replicate 14 (.slice none 0 0)
theorem xsT_nil (k : Nat) (h : k < 14) : xsT[k]? = some (.slice none 0 0) := by rw [xsT, List.getElem?_replicate, if_pos h]
theorem Kp.nilT (w : World) (b : Nat) : Kp w b (.slice none 0 0) (.slice none 0 0) [] [] [] [] :=
 ⟨World.ownsRow_nil _ _ _ _, World.ownsRow_nil _ _ _ _, rfl, rfl, fun j s l hj => by simp at hj, fun j s l hj => by simp at hj, fun g h => (by cases h), fun s hs => by simp at hs, fun s hs => by simp at hs, fun i j s t _ hs => by simp at hs⟩
/-- A new book. -/
theorem Pl.start {Go Gi Gr : Nat → Prop} {w0 w : World} {ob ib ir : Nat} {key : Bs} {n m : Nat} {s sr : InS} (h : Cross Go Gi Gr w0 w ob ib ir key key n n m s sr) {bb : Nat} (hb : w.heap.size = bb) :
 Pl Go Gi Gr w0 (w.alloc (.cells xsT.toArray 43)) ob ib ir bb key n m s sr xsT (.slice none 0 0) (.slice none 0 0) (.slice none 0 0) [] [] [] [] := by
 have hs := h.oi.since.size
 refine ⟨h.pu ((Pu.refl w).alloc _), Row.newAt w bb _ _ hb (by simp), ⟨rfl, fun k hk _ _ => xsT_nil k hk⟩, xsT_nil 0 (by decide), xsT_nil 1 (by decide), Kp.nilT _ _, fun l hl => (by simp at hl), World.ownsRow_nil _ _ _ _, fun l hl => (by simp at hl), ?_, fun g e => (by cases e), by omega, fun _ k hk => xsT_nil k hk⟩
 rintro g (h1 | h1 | h1 | ⟨x, hx, -⟩ | ⟨x, hx, -⟩ | h1)
 · subst h1
   refine ⟨fun hh => ?_, fun hh => ?_, fun hh => ?_⟩
   · have := h.oi.o.dom _ hh; omega
   · have := h.oi.i.dom _ hh; omega
   · have := h.r.dom _ hh; omega
 · cases h1
 · cases h1
 · simp at hx
 · simp at hx
 · cases h1
theorem row_cells5 {w : World} {g : Nat} {e : TypeId} {a b c d x : Value} (h : Row w g e [a, b, c, d, x]) : w.cell? ⟨g, 0, none⟩ = some a ∧ w.cell? ⟨g, 1, none⟩ = some b ∧ w.cell? ⟨g, 2, none⟩ = some c ∧ w.cell? ⟨g, 3, none⟩ = some d ∧ w.cell? ⟨g, 4, none⟩ = some x := by
 refine ⟨?_, ?_, ?_, ?_, ?_⟩
 · have := h.cell 0 (by simp); simpa using this
 · have := h.cell 1 (by simp); simpa using this
 · have := h.cell 2 (by simp); simpa using this
 · have := h.cell 3 (by simp); simpa using this
 · have := h.cell 4 (by simp); simpa using this
theorem index_ofP (a : Int) (L : Nat) (h0 : 0 < L) (h : L ≤ 100000) : ∃ i : Nat, ∃ r : Int, a.tmod L = r ∧ -(L : Int) < r ∧ r < L ∧ IntKind.i64.wrap (r + L) = r + L ∧ (r + L).tmod L = i ∧ i < L := by
 have hr1 : -(L : Int) < a.tmod L := Int.lt_tmod_of_pos a (by omega)
 have hr2 : a.tmod L < L := Int.tmod_lt_of_pos a (by omega)
 have h5 : 0 ≤ (a.tmod L + L) := by omega
 have h6 : (a.tmod L + (L : Int)).tmod L = (a.tmod L + L) % L := Int.tmod_eq_emod_of_nonneg h5
 have h7 := Int.emod_nonneg (a.tmod L + L) (show (L : Int) ≠ 0 by omega)
 have h8 := Int.emod_lt_of_pos (a.tmod L + L) (show (0 : Int) < L by omega)
 refine ⟨((a.tmod L + L) % L).toNat, _, rfl, hr1, hr2, by rw [IntKind.wrap_i64]; omega, ?_, by omega⟩
 rw [h6]; omega
end Go.Proofs.YtoakccknimoogaaGreat
