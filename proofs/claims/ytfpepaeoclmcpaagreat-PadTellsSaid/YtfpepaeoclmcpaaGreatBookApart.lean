/- Package escutcheonbook: the lists that a book keeps are apart. -/
import Derived.Test.YtfpepaeoclmcpaaGreatBookKeep2
set_option linter.unusedSimpArgs false
set_option linter.unusedVariables false
namespace Go.Proofs.YtfpepaeoclmcpaaGreat
open Go.RowKit Go.Esc
theorem SL.own {w : World} {B n : Nat} {v : Value} {vs : List Value} (h : w.ownsRow B 34 1 v n vs) (hl : vs.length = n) (h0 : 0 < n) (hm : n ≤ 250) : SL w v vs := by
  obtain ⟨g, cap, hv, hg, hc⟩ := HL.own h hl h0
  exact ⟨g, cap, hv, by omega, hg, hc⟩
theorem Cg.row {G : Nat → Prop} {w w' : World} (h : Cg G w w') {k : Nat} {e : TypeId} {xs : List Value} (hr : Row w k e xs) (hk : ¬ G k) : Row w' k e xs := hr.other (h.block k hr.lt hk)
theorem SL.cg {G : Nat → Prop} {w w' : World} {v : Value} {vs : List Value} (h : SL w v vs) (hp : Cg G w w') (hk : ∀ g, v.ownBlock = some g → ¬ G g) : SL w' v vs := by
  obtain ⟨g, cap, rfl, hm, hg, hc⟩ := h
  exact ⟨g, cap, rfl, hm, Nat.lt_of_lt_of_le hg hp.size, fun j u hj => by rw [hp.cell hg (hk g rfl)]; exact hc j u hj⟩
theorem Cg.below {G : Nat → Prop} {B : Nat} {a w w' : World} (h : Below B a w) (k : Cg G w w') (hg : ∀ g, G g → B ≤ g) (hB : B ≤ w.heap.size) : Below B a w' :=
  h.trans ⟨k.os, k.tape, k.output, k.size, fun i hi => k.block i (by omega) (fun hG => by have := hg i hG; omega)⟩
set_option maxRecDepth 100000 in
set_option maxHeartbeats 3200000 in
theorem bookApart (b : Nat) (e : TypeId) (xs : List Value) (v2 v3 : Value) (ss cs : List Value) (ls : List (List Int)) (w : World) (hr : Row w b e xs) (hn : Nils xs) (h2 : xs[2]? = some v2) (h3 : xs[3]? = some v3)
    (hk : Kp w b v2 v3 ss cs ls ls) (h0 : 0 < ss.length) (hm : ss.length ≤ 250) (hl : ∀ l ∈ ls, 0 < l.length ∧ l.length ≤ 900) :
    Calls Tryz.prog 14 #[.pointer (some ⟨b, 0, none⟩)] w fun e' w' => e' = .returned (.bool true) ∧ Below b w w' := by
  obtain ⟨a2, q2, rfl, -⟩ := own_slice hk.o2
  obtain ⟨G, hG⟩ : ∃ G : Nat → Prop, G = fun g => ∃ (j : Nat) (v : Value), ss[j]? = some v ∧ v.ownBlock = some g := ⟨_, rfl⟩
  have hG' : ∀ g, G g ↔ ∃ (j : Nat) (v : Value), ss[j]? = some v ∧ v.ownBlock = some g := fun g => by rw [hG]
  clear hG
  have hx : xs.length = 14 := hn.1
  have hcl : cs.length = ss.length := by rw [hk.hk, hk.hl]
  have hGb : ∀ g, G g → b + 1 ≤ g ∧ g < w.heap.size := fun g hg => by
    obtain ⟨j, v, hj, hv⟩ := (hG' g).1 hg
    exact hk.lt2 v (List.mem_of_getElem? hj) g hv
  have hnb : ¬ G b := fun hg => by have := (hGb b hg).1; omega
  have hG2 : ∀ g, (Value.slice a2 ss.length q2).ownBlock = some g → ¬ G g := fun g h hg => by
    obtain ⟨j, v, hj, hv⟩ := (hG' g).1 hg
    exact (hk.a2s v (List.mem_of_getElem? hj)).1 g h hv
  have hpw : ∀ (i j : Nat) (s t : Value), i ≠ j → ss[i]? = some s → ss[j]? = some t → s.ownBlock = none ∨ s.ownBlock ≠ t.ownBlock := fun i j s t hij hs ht => (hk.pw j i t s (fun e => hij e.symm) ht hs).ne
  obtain ⟨n, hnn⟩ : ∃ n : Nat → Nat, n = fun j => (ls.getD j []).length := ⟨_, rfl⟩
  have hn1 : ∀ j, j < ss.length → 0 < n j ∧ n j ≤ 900 := fun j hj => by
    rw [hnn]
    have : ls.getD j [] ∈ ls := by rw [List.getD_eq_getElem?_getD, List.getElem?_eq_getElem (by rw [← hk.hl]; exact hj)]; exact List.getElem_mem _
    exact hl _ this
  have hls : ∀ (j : Nat) (v : Value), ss[j]? = some v → ls[j]? = some (ls.getD j []) := fun j v hj => by
    have hjl := (List.getElem?_eq_some_iff.1 hj).1
    rw [List.getD_eq_getElem?_getD, List.getElem?_eq_getElem (by rw [← hk.hl]; exact hjl)]; rfl
  have hfx : ∀ w' : World, w.heap.size ≤ w'.heap.size → Fix G w' ss := fun w' hw => ⟨fun g hg => Nat.lt_of_lt_of_le (hGb g hg).2 hw, fun j v g hj hv => (hG' g).2 ⟨j, v, hj, hv⟩, hpw⟩
  have s2 : SL w (.slice a2 ss.length q2) ss := SL.own hk.o2 rfl h0 hm
  have s3 : SL w v3 cs := SL.own hk.o3 rfl (by omega) (by omega)
  have hst := stillInts b e xs _ v3 ss cs w hr h2 h3 s2 s3 hcl (fun j v u hj hu => by
    have hjl := (List.getElem?_eq_some_iff.1 hj).1
    have h1 := hn1 j hjl
    rw [hnn] at h1
    dsimp only at h1
    refine ⟨_, LI.own (hk.s2 j v _ hj (hls j v hj)) rfl h1.1 (by omega), LI.own (hk.s3 j u _ hu (hls j v hj)) rfl h1.1 (by omega)⟩)
  have hpt : ∀ w1, Pu w w1 → Calls Tryz.prog 32 #[.pointer (some ⟨b, 0, none⟩)] w1 fun e w' => e = .returned (.tuple #[]) ∧ Cg G w1 w' ∧ ∀ (j : Nat) (v : Value), ss[j]? = some v → w'.ownsRow 0 3 1 v (n j) (mkI j (n j)) := fun w1 hp => by
    refine (putInts G b e xs _ ss (fun j => ls.getD j []) w1 (hr.pu hp) h2 (s2.pu hp) hnb hG2 (fun j v g hj hv => (hG' g).2 ⟨j, v, hj, hv⟩) (fun g hg => Nat.lt_of_lt_of_le (hGb g hg).2 hp.size) hpw (fun j hj => by have := hn1 j hj; rw [hnn] at this; dsimp only at this; exact ⟨this.1, by omega⟩) (fun j v hj => ownB (own_puQ (hk.s2 j v _ hj (hls j v hj)) hp) (Nat.zero_le _))).mono ?_
    rintro e' w' ⟨rfl, hc, ho⟩
    refine ⟨rfl, hc, fun j v hj => ?_⟩
    have := ho j v hj
    have hjl := (List.getElem?_eq_some_iff.1 hj).1
    simp only [doneL, if_pos hjl, marksL_length] at this
    rw [hnn]; exact this
  have hgr : ∀ w1 w2, Pu w w1 → Cg G w1 w2 → (∀ (j : Nat) (v : Value), ss[j]? = some v → w2.ownsRow 0 3 1 v (n j) (mkI j (n j))) → Calls Tryz.prog 38 #[.pointer (some ⟨b, 0, none⟩)] w2 fun e w' => ∃ vo us, e = .returned vo ∧ us.length = ss.length ∧ Gs G 3 34 mkI n w2 w' ss ss.length ss.length vo us := fun w1 w2 hp hc ho =>
    growInts G b e xs _ ss n w2 (hc.row (hr.pu hp) hnb) h2 ((s2.pu hp).cg hc hG2) hnb hG2 (hfx w2 (Nat.le_trans hp.size hc.size)) hn1 ho
  have hma : ∀ w1 w2 w3 vo us, Pu w w1 → Cg G w1 w2 → us.length = ss.length → Gs G 3 34 mkI n w2 w3 ss ss.length ss.length vo us → (∀ w4, Pu w3 w4 → Calls Tryz.prog 45 #[vo] w4 fun e w' => e = .returned (.bool true) ∧ Pu w4 w') ∧ (∀ w4, Pu w3 w4 → Calls Tryz.prog 45 #[.slice a2 ss.length q2] w4 fun e w' => e = .returned (.bool true) ∧ Pu w4 w') ∧ Row w3 b e xs ∧ Below b w w3 := fun w1 w2 w3 vo us hp hc hul hg => by
    refine ⟨fun w4 hp4 => ?_, fun w4 hp4 => ?_, hg.cg.row (hc.row (hr.pu hp) hnb) hnb, Cg.below (Cg.below (Below.mono hp (by have := hr.lt; omega)) hc (fun g hg => by have := (hGb g hg).1; omega) (by have := hr.lt; have := hp.size; omega)) hg.cg (fun g hg => by have := (hGb g hg).1; omega) (by have := hr.lt; have := hp.size; have := hc.size; omega)⟩
    · refine markedInts vo us w4 (SL.own (own_puQ hg.own hp4) rfl (by omega) (by omega)) fun j u hj => ?_
      have hjl := (List.getElem?_eq_some_iff.1 hj).1
      have h1 := hn1 j (by omega)
      refine ⟨n j + 72, by omega, by omega, HL.li ((hg.new j u hj).1.pu hp4) (by rw [marksL_length]; omega)⟩
    · refine markedInts _ ss w4 ((((s2.pu hp).cg hc hG2).cg hg.cg hG2).pu hp4) fun j u hj => ?_
      have hjl := (List.getElem?_eq_some_iff.1 hj).1
      have h1 := hn1 j (by omega)
      refine ⟨n j, by omega, by omega, HL.li ((hg.old j u (by omega) hj).pu hp4) (by rw [marksL_length]; omega)⟩
  have HST := Lib.hid hst
  have HPT := Lib.hid hpt
  have HGR := Lib.hid hgr
  have HMA := Lib.hid hma
  have H2 := Lib.hid h2
  have HNB := Lib.hid hnb
  have HN := Lib.hid hn
  clear hst hpt hgr hma h2 h3 hk hcl hGb hG2 hpw hnn hn1 hls hfx s2 s3 hG' hnb hl hn
  have hx2 : (2 : Nat) < xs.length := by omega
  have HX := Lib.hid hx
  clear hx hx2
  go_enter Tryz.func14, Tryz.ntmps14
  go_wp2_with (first
    | (go_at_call 23; refine (stillTexts b e xs _ hr HN.out).mono ?_; rintro e0 w0 ⟨rfl, rfl⟩)
    | (go_at_call 24; refine HST.out.mono ?_; rintro e0 w1 ⟨rfl, hp1⟩; have hr1 := hr.pu hp1)
    | (go_at_call 25; refine (stillRules b e xs _ hr1 HN.out).mono ?_; rintro e0 w0 ⟨rfl, rfl⟩)
    | (go_at_call 26; refine (stillNotes b e xs _ hr1 HN.out).mono ?_; rintro e0 w0 ⟨rfl, rfl⟩)
    | (go_at_call 27; refine (stillItems b e xs _ hr1 HN.out).mono ?_; rintro e0 w0 ⟨rfl, rfl⟩)
    | (go_at_call 28; refine (stillCommands b e xs _ hr1 HN.out).mono ?_; rintro e0 w0 ⟨rfl, rfl⟩)
    | (go_at_call 29; refine (stillReplies b e xs _ hr1 HN.out).mono ?_; rintro e0 w0 ⟨rfl, rfl⟩)
    | (go_at_call 30; refine (putReplies b e xs _ hr1 HN.out).mono ?_; rintro e0 w0 ⟨rfl, rfl⟩)
    | (go_at_call 31; refine (putTexts b e xs _ hr1 HN.out).mono ?_; rintro e0 w0 ⟨rfl, rfl⟩)
    | (go_at_call 32; refine (HPT.out _ hp1).mono ?_; rintro e0 w2 ⟨rfl, hc2, ho2⟩; have hr2 := hc2.row hr1 HNB.out)
    | (go_at_call 33; refine (putRules b e xs _ hr2 HN.out).mono ?_; rintro e0 w0 ⟨rfl, rfl⟩)
    | (go_at_call 34; refine (putNotes b e xs _ hr2 HN.out).mono ?_; rintro e0 w0 ⟨rfl, rfl⟩)
    | (go_at_call 35; refine (putItems b e xs _ hr2 HN.out).mono ?_; rintro e0 w0 ⟨rfl, rfl⟩)
    | (go_at_call 36; refine (putCommands b e xs _ hr2 HN.out).mono ?_; rintro e0 w0 ⟨rfl, rfl⟩)
    | (go_at_call 37; refine (growTexts b e xs _ hr2 HN.out).mono ?_; rintro e0 w0 ⟨rfl, rfl⟩)
    | (go_at_call 38; refine (HGR.out _ _ hp1 hc2 ho2).mono ?_; rintro e0 w3 ⟨vo, us, rfl, hul, hgs⟩
       obtain ⟨hm1, hm2, hr3, hb3⟩ := HMA.out _ _ _ _ _ hp1 hc2 hul hgs
       have HM1 := Lib.hid hm1
       have HM2 := Lib.hid hm2
       have c0 := HN.out.cell hr3 0 (by decide) (by decide) (by decide)
       clear hm1 hm2 hgs)
    | (go_at_call 39; refine (growRules b e xs _ hr3 HN.out).mono ?_; rintro e0 w0 ⟨rfl, rfl⟩)
    | (go_at_call 40; refine (growNotes b e xs _ hr3 HN.out).mono ?_; rintro e0 w0 ⟨rfl, rfl⟩)
    | (go_at_call 41; refine (growItems b e xs _ hr3 HN.out).mono ?_; rintro e0 w0 ⟨rfl, rfl⟩)
    | (go_at_call 42; refine (growCommands b e xs _ hr3 HN.out).mono ?_; rintro e0 w0 ⟨rfl, rfl⟩)
    | (go_at_call 43; refine (growReplies b e xs _ hr3 HN.out).mono ?_; rintro e0 w0 ⟨rfl, rfl⟩)
    | (go_at_call 44; refine (markedTexts _).mono ?_; rintro e0 w0 ⟨rfl, rfl⟩)
    | (go_at_call 45; refine (HM1.out _ (Pu.refl _)).mono ?_; rintro e0 w4 ⟨rfl, hp4⟩; clear HM1; have hr4 := hr3.pu hp4; have c2 := hr4.cell 2 (by have := HX.out; omega); rw [← List.getElem?_eq_getElem, H2.out] at c2)
    | (go_at_call 45; refine (HM2.out _ hp4).mono ?_; rintro e0 w5 ⟨rfl, hp5⟩; clear HM2; have hr5 := hr4.pu hp5; have c4 := HN.out.cell hr5 4 (by decide) (by decide) (by decide); have c6 := HN.out.cell hr5 6 (by decide) (by decide) (by decide); have c8 := HN.out.cell hr5 8 (by decide) (by decide) (by decide); have c10 := HN.out.cell hr5 10 (by decide) (by decide) (by decide); have c12 := HN.out.cell hr5 12 (by decide) (by decide) (by decide))
    | (go_at_call 46; refine (markedRules _).mono ?_; rintro e0 w0 ⟨rfl, rfl⟩)
    | (go_at_call 47; refine (markedNotes _).mono ?_; rintro e0 w0 ⟨rfl, rfl⟩)
    | (go_at_call 48; refine (markedItems _).mono ?_; rintro e0 w0 ⟨rfl, rfl⟩)
    | (go_at_call 49; refine (markedCommands _).mono ?_; rintro e0 w0 ⟨rfl, rfl⟩)
    | (go_at_call 50; refine (markedReplies _).mono ?_; rintro e0 w0 ⟨rfl, rfl⟩))
  go_ret
  exact ⟨rfl, hb3.trans (Below.mono (hp4.trans hp5) (by have := hr3.lt; omega))⟩
end Go.Proofs.YtfpepaeoclmcpaaGreat
