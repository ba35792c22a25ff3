/- Package box: Seal, Open, in one word. Package record: records are sealed. Package window. Package record: records are opened. -/
import Derived.Test.YtoakccknimoogaaGreatT11
set_option linter.unusedSimpArgs false
set_option linter.unusedVariables false
set_option linter.unusedSimpArgs false
set_option linter.unusedVariables false
namespace Go.Esc
open Go Go.RowKit
theorem sealR_yes {key nonce : Bs} (plain more : Bs) (h : fineL key nonce = true) : sealR key nonce plain more = (sealL key nonce plain more, true) := by rw [sealR, if_pos h]
theorem sealR_no {key nonce : Bs} (plain more : Bs) (h : fineL key nonce = false) : sealR key nonce plain more = ([], false) := by rw [sealR, h]; rfl
theorem openR_short (key nonce : Bs) {b : Bs} (more : Bs) (h : b.length < 16) : openR key nonce b more = ([], false) := by
 rw [openR, if_neg]
 simp; omega
theorem openR_no {key nonce : Bs} (b more : Bs) (h : fineL key nonce = false) : openR key nonce b more = ([], false) := by rw [openR, h]; rfl
theorem openR_bad {key nonce : Bs} {b more : Bs} (h : boxTag key nonce (b.take (b.length - 16)) more ≠ b.drop (b.length - 16)) : openR key nonce b more = ([], false) := by
 rw [openR, if_neg]
 simp [h]
theorem openR_yes {key nonce : Bs} {b more : Bs} (hf : fineL key nonce = true) (hl : 16 ≤ b.length) (h : boxTag key nonce (b.take (b.length - 16)) more = b.drop (b.length - 16)) : openR key nonce b more = (streamL key 1 nonce (b.take (b.length - 16)), true) := by
 rw [openR, if_pos]
 simp [h, hf, hl]
end Go.Esc
namespace Go.Proofs.YtoakccknimoogaaGreat
open Go.RowKit Go.Esc
def rb (r : Bs × Bool) : Value := .tuple #[S r.1, .bool r.2]
theorem boxSeal (key nonce plain more : Bs) (hh : plain.length ≤ 90000) (hm : more.length ≤ 100000) (w : World) :
 Calls Tryz.prog 21 #[S key, S nonce, S plain, S more] w fun e w' => e = .returned (rb (sealR key nonce plain more)) ∧ Pu w w' := by
 cases h : fineL key nonce with
 | true => rw [sealR_yes _ _ h]; exact sealYes key nonce plain more h hh hm w
 | false =>
   rw [sealR_no _ _ h]
   refine (sealNo key nonce plain more h w).mono ?_
   rintro e w' ⟨rfl, rfl⟩; exact ⟨rfl, Pu.refl _⟩
theorem sameYes (a b : Bs) (h : a.length ≤ 1000000) (hab : a = b) (w : World) :
 Calls Tryz.prog 131 #[S a, S b] w fun e w' => e = .returned (.bool true) ∧ Pu w w' := by
 subst hab
 have := same a a h h w
 rwa [decide_eq_true rfl] at this
theorem sameNo (a b : Bs) (h : a.length ≤ 1000000) (h2 : b.length ≤ 1000000) (hab : a ≠ b) (w : World) :
 Calls Tryz.prog 131 #[S a, S b] w fun e w' => e = .returned (.bool false) ∧ Pu w w' := by
 have := same a b h h2 w
 rwa [decide_eq_false hab] at this
set_option maxRecDepth 100000 in
set_option maxHeartbeats 3200000 in
theorem boxOpen (key nonce b more : Bs) (hh : b.length ≤ 90000) (hm : more.length ≤ 100000) (w : World) :
 Calls Tryz.prog 87 #[S key, S nonce, S b, S more] w fun e w' => e = .returned (rb (openR key nonce b more)) ∧ Pu w w' := by
 by_cases h16 : b.length < 16
 · rw [openR_short key nonce more h16]
   have q1 : IntKind.i64.wrap ((b.length : Int) - 16) = b.length - 16 := by rw [IntKind.wrap_i64]; omega
   have q2 : (b.length : Int) - 16 < 0 := by omega
   go_enter Tryz.func87, Tryz.ntmps87
   go_wp2_with fail
   go_ret2
   exact ⟨rfl, (Pu.refl w).alloc _⟩
 obtain ⟨at', hat⟩ : ∃ n : Nat, n = b.length - 16 := ⟨_, rfl⟩
 have q2 : (b.length : Int) - 16 = at' := by omega
 have q2w : IntKind.i64.wrap (at' : Int) = at' := by rw [IntKind.wrap_i64]; omega
 have q3 : decide ((at' : Int) < 0) = false := by simp
 have q4 : (0 : Int) ≤ at' := by omega
 have q5 : (at' : Int) ≤ b.length := by omega
 have q6 : b.take b.length = b := List.take_length
 have hdl : (b.drop at').length = 16 := by simp; omega
 have hr0 := Row.newAt w w.heap.size #[.int .i32 0] 185 (xs := [.int .i32 0]) rfl rfl
 have hp0 : Pu w (w.alloc (.cells #[.int .i32 0] 185)) := Pu.alloc (Pu.refl w) _
 cases hf : fineL key nonce with
 | false =>
   rw [openR_no b more hf]
   have hT := fun w => boxTagF_no key nonce (b.take at') more hf w
   have hS := fun w => sameNo [] (b.drop at') (by simp) (by omega) (by intro h; rw [← h] at hdl; simp at hdl) w
   have HT := Lib.hid hT
   have HS := Lib.hid hS
   have HAT := Lib.hid hat
   have kem : (ByteArray.mk #[]) = bs [] := rfl
   have d0 : 0 ≤ (0 : Int) ∧ (0 : Int) < 1000000000 := by decide
   have c0 : (w.alloc (.cells #[.int .i32 0] 185)).cell? ⟨w.heap.size, 0, none⟩ = some (.int .i32 0) := hr0.cell 0 (by simp)
   have f0 : (w.alloc (.cells #[.int .i32 0] 185)).frozen? ⟨w.heap.size, 0, none⟩ = false := hr0.frozen 0 (by simp)
   clear hf hT hS hat
   go_enter Tryz.func87, Tryz.ntmps87
   go_wp2_with (first
    | (go_at_call 70; refine (HT.out _).mono ?_; rintro e w1 ⟨rfl, hw1⟩; subst w1)
    | (go_at_call 131; refine (HS.out _).mono ?_; rintro e w2 ⟨rfl, hp2⟩; have hr2 := (Row.newAt w w.heap.size #[.int .i32 1] 185 (xs := [.int .i32 1]) rfl rfl).pu hp2; have hb2 := Pu.trans (Pu.alloc (Pu.refl w) _) hp2)
    | (go_at_call 130; first
       | (with_reducible refine (addI32 ⟨w.heap.size, 0, none⟩ 0 _ d0 c0 f0).mono ?_
          rintro e w3 ⟨rfl, hw3⟩; subst w3)
       | (refine (addI32 ⟨w.heap.size, 0, none⟩ 1 _ (by decide) (hr2.cell 0 (by simp)) (hr2.frozen 0 (by simp))).mono ?_
          rintro e w4 ⟨rfl, hw4⟩; subst w4; have hr3 := hr2.set 0 (.int .i32 (1 + 1)); have hb3 := hb2.setCell (p := ⟨w.heap.size, 0, none⟩) (Nat.le_refl _) (.int .i32 (1 + 1)); clear hr2 hb2))
    | (go_at_call 132; refine (loadI32 ⟨w.heap.size, 0, none⟩ (1 + 1) _ (hr3.cell 0 (by simp))).mono ?_; rintro e w5 ⟨rfl, hw5⟩; subst w5))
   go_ret2
   exact ⟨rfl, hb3⟩
 | true =>
   have hT := fun w => boxTagF key nonce (b.take at') more hf (by simp; omega) hm w
   have htl := boxTag_length key nonce (b.take at') more
   by_cases htg : boxTag key nonce (b.take at') more = b.drop at'
   · rw [openR_yes hf (by omega) (by rw [← hat]; exact htg), ← hat]
     have hX := fun w => streamXor key nonce (b.take at') 1 hf (by omega) (by simp; omega) w
     rw [show ((1 : Nat) : Int) = 1 from rfl] at hX
     rw [htg] at hT
     have hS := fun w => sameYes (b.drop at') (b.drop at') (by omega) rfl w
     obtain ⟨t, ht⟩ : ∃ t, t = b.drop at' := ⟨_, rfl⟩
     have ht' : b.drop at' = t := ht.symm
     rw [ht'] at hT hS
     obtain ⟨c, hc⟩ : ∃ t, t = streamL key 1 nonce (b.take at') := ⟨_, rfl⟩
     rw [← hc] at hX ⊢
     have HT := Lib.hid hT
     have HS := Lib.hid hS
     have HX := Lib.hid hX
     have HAT := Lib.hid hat
     clear hf hT hS hat htg htl hX ht hc hdl
     go_enter Tryz.func87, Tryz.ntmps87
     go_wp2_with (first
      | (go_at_call 70; refine (HT.out _).mono ?_; rintro e w1 ⟨rfl, hp1⟩; have hr1 := hr0.pu hp1; have hb1 := Pu.trans hp0 hp1; clear hr0 hp0)
      | (go_at_call 131; refine (HS.out _).mono ?_; rintro e w2 ⟨rfl, hp2⟩; have hr2 := hr1.pu hp2; have hb2 := Pu.trans hb1 hp2; clear hr1 hb1)
      | (go_at_call 132; refine (loadI32 ⟨w.heap.size, 0, none⟩ 0 _ (hr2.cell 0 (by simp))).mono ?_; rintro e w5 ⟨rfl, hw5⟩; subst w5)
      | (go_at_call 69; refine (HX.out _).mono ?_; rintro e w6 ⟨rfl, hp6⟩))
     go_ret2
     exact ⟨rfl, Pu.trans hb2 hp6⟩
   · rw [openR_bad (by rw [← hat]; exact htg)]
     have hS := fun w => sameNo (boxTag key nonce (b.take at') more) (b.drop at') (by omega) (by omega) htg w
     obtain ⟨t, ht⟩ : ∃ t, t = boxTag key nonce (b.take at') more := ⟨_, rfl⟩
     rw [← ht] at hT hS
     have HT := Lib.hid hT
     have HS := Lib.hid hS
     have HAT := Lib.hid hat
     clear hf hT hS hat htg htl ht hdl
     go_enter Tryz.func87, Tryz.ntmps87
     go_wp2_with (first
      | (go_at_call 70; refine (HT.out _).mono ?_; rintro e w1 ⟨rfl, hp1⟩; have hr1 := hr0.pu hp1; have hb1 := Pu.trans hp0 hp1; clear hr0 hp0)
      | (go_at_call 131; refine (HS.out _).mono ?_; rintro e w2 ⟨rfl, hp2⟩; have hr2 := hr1.pu hp2; have hb2 := Pu.trans hb1 hp2; clear hr1 hb1)
      | (go_at_call 130; refine (addI32 ⟨w.heap.size, 0, none⟩ 0 _ (by decide) (hr2.cell 0 (by simp)) (hr2.frozen 0 (by simp))).mono ?_
         rintro e w3 ⟨rfl, hw3⟩; subst w3; have hr3 := hr2.set 0 (.int .i32 (0 + 1)); have hb3 := hb2.setCell (p := ⟨w.heap.size, 0, none⟩) (Nat.le_refl _) (.int .i32 (0 + 1)); clear hr2 hb2)
      | (go_at_call 132; refine (loadI32 ⟨w.heap.size, 0, none⟩ (0 + 1) _ (hr3.cell 0 (by simp))).mono ?_; rintro e w5 ⟨rfl, hw5⟩; subst w5))
     go_ret2
     exact ⟨rfl, hb3⟩
end Go.Proofs.YtoakccknimoogaaGreat
set_option linter.unusedSimpArgs false
set_option linter.unusedVariables false
namespace Go.Proofs.YtoakccknimoogaaGreat
open Go.RowKit Go.Esc
theorem Turns.cg {G H : Nat → Prop} {w w' : World} {tb mb : Nat} {key : Bs} {m : Nat} (h : Turns G w tb mb key m) (hp : Cg H w w') (ht : G tb) (hm : G mb) (hd : ∀ g, H g → ¬ G g) : Turns G w' tb mb key m := by
 obtain ⟨f, c, h1, h2, h3, h4⟩ := h
 refine ⟨f, c, hp.row h1 (fun e => hd _ e ht), h2.other (hp.block mb h2.lt (fun e => hd _ e hm)), h3, fun e v he => ?_⟩
 obtain ⟨x, hx, hg, hr⟩ := h4 e v he
 exact ⟨x, hx, hg, hp.row hr (fun e => hd _ e hg)⟩
theorem Turns.mono {G H : Nat → Prop} {w : World} {tb mb : Nat} {key : Bs} {m : Nat} (h : Turns G w tb mb key m) (hd : ∀ g, G g → H g) : Turns H w tb mb key m := by
 obtain ⟨f, c, h1, h2, h3, h4⟩ := h
 refine ⟨f, c, h1, h2, h3, fun e v he => ?_⟩
 obtain ⟨x, hx, hg, hr⟩ := h4 e v he
 exact ⟨x, hx, hd _ hg, hr⟩
/-- An Out: the next number is n; m: how often a key was asked for at most. -/
structure OutAt (G : Nat → Prop) (w : World) (ob : Nat) (key : Bs) (m n : Nat) : Prop where
 has : ∃ tb mb, Row w ob 68 [.pointer (some ⟨tb, 0, none⟩), .int .i64 (n : Int)] ∧ Turns G w tb mb key m ∧ G tb ∧ G mb
 here : G ob
 dom : ∀ g, G g → g < w.heap.size
theorem OutAt.cg {G H : Nat → Prop} {w w' : World} {ob : Nat} {key : Bs} {m n : Nat} (h : OutAt G w ob key m n) (hp : Cg H w w') (hd : ∀ g, H g → ¬ G g) : OutAt G w' ob key m n := by
 obtain ⟨⟨tb, mb, h1, h2, h3, h4⟩, h5, h6⟩ := h
 exact ⟨⟨tb, mb, hp.row h1 (fun e => hd _ e h5), h2.cg hp h3 h4 hd, h3, h4⟩, h5, fun g hg => Nat.lt_of_lt_of_le (h6 g hg) hp.size⟩
theorem OutAt.pu {G : Nat → Prop} {w w' : World} {ob : Nat} {key : Bs} {m n : Nat} (h : OutAt G w ob key m n) (hp : Pu w w') : OutAt G w' ob key m n :=
 h.cg (H := fun _ => False) (Cg.ofPu hp) (fun _ h => h.elim)
theorem Gw.dom {G : Nat → Prop} {w w' : World} (hd : ∀ g, G g → g < w.heap.size) (hs : w.heap.size ≤ w'.heap.size) : ∀ g, Gw G w w' g → g < w'.heap.size := fun g hg => by
 rcases hg with h | h
 · exact Nat.lt_of_lt_of_le (hd g h) hs
 · exact h.2
set_option maxRecDepth 100000 in
theorem newOut_no (key : Bs) (hk : key.length ≠ 32) (hm : key.length ≤ 140737488351232) (w : World) :
 Calls Tryz.prog 7 #[S key] w fun e w' => e = .returned (.pointer none) ∧ w' = w := by
 have hk' : ((key.length : Int) == 32) = false := by simp; omega
 have hk2 : ¬ (key.length : Int) = 32 := by omega
 go_enter Tryz.func7, Tryz.ntmps7
 go_wp2_with fail
 go_ret
 exact ⟨rfl, rfl⟩
set_option maxRecDepth 100000 in
theorem newOut (key : Bs) (hk : key.length = 32) (w : World) :
 Calls Tryz.prog 7 #[S key] w fun e w' => ∃ ob, e = .returned (.pointer (some ⟨ob, 0, none⟩)) ∧ OutAt (Gw (fun _ => False) w w') w' ob key 0 0 ∧ Pu w w' := by
 have hk' : ((key.length : Int) == 32) = true := by simp; omega
 have hk2 : (key.length : Int) = 32 := by omega
 have hmm := @run_makeMap Tryz.prog
 go_enter Tryz.func7, Tryz.ntmps7
 go_wp2_with fail
 go_ret
 refine ⟨w.heap.size + 1 + 1, rfl, ⟨⟨w.heap.size + 1, w.heap.size, ?_, ⟨fun _ => none, 0, ?_, ?_, Nat.le_refl _, fun e v h => by cases h⟩, .inr ⟨by omega, by simp⟩, .inr ⟨Nat.le_refl _, by simp; omega⟩⟩, .inr ⟨by omega, by simp⟩, Gw.dom (fun _ h => h.elim) (by simp; omega)⟩, (((Pu.refl w).alloc _).trans ((Pu.refl _).alloc _)).trans ((Pu.refl _).alloc _)⟩
 · exact Row.newAt _ _ _ _ (by simp) rfl
 · exact Row.alloc (Row.newAt _ _ _ _ (by simp) rfl) _
 · exact ((MapAt.made w).pu ((Pu.refl _).alloc _)).pu ((Pu.refl _).alloc _)
set_option maxRecDepth 100000 in
theorem outNext {G : Nat → Prop} {w : World} {ob : Nat} {key : Bs} {m n : Nat} (h : OutAt G w ob key m n) :
 Calls Tryz.prog 11 #[.pointer (some ⟨ob, 0, none⟩)] w fun e w' => e = .returned (.int .i64 (n : Int)) ∧ w' = w := by
 obtain ⟨⟨tb, mb, h1, -, -, -⟩, -, -⟩ := h
 have c1 := h1.cell 1 (by simp)
 simp at c1
 go_enter Tryz.func11, Tryz.ntmps11
 go_wp2_with (go_at_call 30; refine (load64 _ _ _ c1).mono ?_; rintro e w1 ⟨rfl, rfl⟩)
 go_ret
 exact ⟨rfl, rfl⟩
theorem padL_le {b p : Bs} (h : padL b = some p) : p.length ≤ 2048 := by
 unfold padL at h
 cases hs : padSize (b.length : Int) with
 | none => rw [hs] at h; cases h
 | some s =>
   rw [hs] at h
   simp only [Option.map_some, Option.some.injEq] at h
   have := padSize_some hs
   rw [← h]
   simp [putB_length]
   omega
set_option maxRecDepth 100000 in
set_option maxHeartbeats 1600000 in
theorem sealOk {G : Nat → Prop} {w : World} {ob : Nat} {key : Bs} {m n : Nat} (h : OutAt G w ob key m n) (hk : key.length = 32) (plain p : Bs) (hl : plain.length ≤ 140737488351232) (hp : padL plain = some p) (hn : n < 400) (hm : m ≤ 100000) :
 Calls Tryz.prog 9 #[.pointer (some ⟨ob, 0, none⟩), S plain] w fun e w' => e = .returned (.tuple #[S (recL key n plain), .int .i64 0]) ∧ OutAt (Gw G w w') w' ob key (m+1) (n+1) ∧ Cg G w w' := by
 have hpl := padL_le hp
 have hP := fun w => pad plain w hl
 rw [hp] at hP
 have hB := fun w => putBig (n : Int) 8 w (by omega) (by decide) (by decide)
 have hN := fun w => nonce n (by omega) w
 have hS := fun w => boxSeal (turnL key (n / 8)) (nonceL n) p (putB n 8) (by omega) (by simp [putB_length]) w
 rw [sealR_yes _ _ (fine_turn key (n / 8) n hk)] at hS
 simp only [rb] at hS
 have hrec : recL key n plain = putB n 8 ++ sealL (turnL key (n / 8)) (nonceL n) p (putB n 8) := by rw [recL, hp]; rfl
 rw [hrec]
 obtain ⟨k, hkk⟩ : ∃ k, k = turnL key (n / 8) := ⟨_, rfl⟩
 obtain ⟨hd, hhd⟩ : ∃ hd, hd = putB n 8 := ⟨_, rfl⟩
 obtain ⟨no, hno⟩ : ∃ no, no = nonceL n := ⟨_, rfl⟩
 rw [show ((n : Int)).toNat = n from rfl, show ((8 : Int)).toNat = 8 from rfl, ← hhd] at hB
 rw [← hkk, ← hno, ← hhd] at hS ⊢
 obtain ⟨bx, hbx⟩ : ∃ bx, bx = sealL k no p hd := ⟨_, rfl⟩
 rw [← hbx] at hS ⊢
 rw [← hno] at hN
 have H := Lib.hid h
 obtain ⟨⟨tb, mb, h1, h2, h3, h4⟩, h5, h6⟩ := h
 have hT := fun w' (hp : Pu w w') => turnsAt G tb mb key m n w' (h2.pu hp) hk (by omega) hm
 rw [← hkk] at hT
 have c0 := h1.cell 0 (by simp)
 simp at c0
 have hn' : (n : Int) < 400 := by omega
 have hz9 : ¬ (9223372036854775807 < hd.length + bx.length) := by rw [hhd, hbx, sealL_length, putB_length]; omega
 have HP := Lib.hid hP
 have HB := Lib.hid hB
 have HN := Lib.hid hN
 have HS := Lib.hid hS
 have HT := Lib.hid hT
 clear hP hB hN hS hT hrec hkk hhd hno hbx hp
 go_enter Tryz.func9, Tryz.ntmps9
 go_wp2_with (first
  | (go_at_call 19; refine (HP.out _).mono ?_; rintro e w1 ⟨rfl, hp1⟩)
  | (go_at_call 11; refine (outNext (H.out.pu hp1)).mono ?_; rintro e w2 ⟨rfl, rfl⟩)
  | (go_at_call 20; refine (HB.out _).mono ?_; rintro e w3 ⟨rfl, hp3⟩; have hp13 := hp1.trans hp3; have c03 := (h1.pu hp13).cell 0 (by simp); simp at c03)
  | (go_at_call 22; refine (HT.out _ hp13).mono ?_; rintro e w4 ⟨rfl, ht4, hb4⟩)
  | (go_at_call 23; refine (HN.out _).mono ?_; rintro e w5 ⟨rfl, hp5⟩)
  | (go_at_call 21; refine (HS.out _).mono ?_; rintro e w6 ⟨rfl, hp6⟩
     have hmo : mb ≠ ob := (by obtain ⟨f, c, -, hmm, -⟩ := h2; exact hmm.ne h1)
     have h16 := (hb4.row (h1.pu hp13) (by omega)).pu (hp5.trans hp6)
     have c16 := h16.cell 1 (by simp)
     have f16 := h16.frozen 1 (by simp)
     simp at c16)
  | (go_at_call 24; refine (add64 _ _ _ (by omega) c16 f16).mono ?_; rintro e w7 ⟨rfl, rfl⟩))
 go_ret2
 have hcg : Cg G w (w6.setCell ⟨ob, 1, none⟩ (.int .i64 ((n : Int) + 1))) := by
  refine (((Cg.ofPu (G := G) hp13).andThen (H := G) (Cg.ofBut hb4 h4) (fun g hg => .inl hg)).pu (hp5.trans hp6)).andThen (H := G) (Cg.ofBut (But.set _ _ _) h5) (fun g hg => .inl hg)
 have hin : ∀ g, Gw G w3 w4 g → Gw G w (w6.setCell ⟨ob, 1, none⟩ (.int .i64 ((n : Int) + 1))) g := fun g hg => by
  rcases hg with h | h
  · exact .inl h
  · refine .inr ⟨Nat.le_trans hp13.size h.1, ?_⟩
    have := (hp5.trans hp6).size
    simp; omega
 refine ⟨rfl, ⟨⟨tb, mb, ?_, ?_, .inl h3, .inl h4⟩, .inl h5, Gw.dom h6 hcg.size⟩, hcg⟩
 · have := h16.set 1 (.int .i64 ((n : Int) + 1))
   simpa using this
 · refine Turns.mono ?_ hin
   have ht6 := ht4.pu (hp5.trans hp6)
   obtain ⟨f, c, t1, t2, t3, t4⟩ := ht6
   refine ⟨f, c, t1.setOther _ _ ((Row.ne t1 h16 (by decide))), t2.other (Below.heap_setCell _ _ _ _ (t2.ne h16)), t3, fun e v he => ?_⟩
   obtain ⟨x, hx, hg, hr⟩ := t4 e v he
   exact ⟨x, hx, hg, hr.setOther _ _ (Row.ne hr h16 (by decide))⟩
end Go.Proofs.YtoakccknimoogaaGreat
set_option linter.unusedSimpArgs false
set_option linter.unusedVariables false
namespace Go.Proofs.YtoakccknimoogaaGreat
open Go.RowKit Go.Esc
theorem zeroBool (w : World) : (zeroValue 4).run Tryz.prog w = .ok (.bool false) w := by kernel_rfl
theorem keyInt : KeyOf Tryz.prog 3 litI valI (fun n => n ≤ 1000000) := keyI Tryz.underlying3
theorem mapNe (ab : Nat) (w : World) : (binOp .eql 70 (.map (some ab)) (.map none)).run Tryz.prog w = .ok (.bool false) w := by kernel_rfl
theorem mapEq (w : World) : (binOp .eql 70 (.map none) (.map none)).run Tryz.prog w = .ok (.bool true) w := by kernel_rfl
/-- Those that were taken, as a map has them. -/
def tookV (f : Nat → Option Bs) : Nat → Option Value := fun k => (f k).map fun _ => .bool true
/-- A window: n is the least one that was not taken; f holds those above it. -/
structure WinAt (w : World) (wb : Nat) (am : Option Nat) (n : Nat) (f : Nat → Option Bs) (c : Nat) : Prop where
 row : Row w wb 72 [.int .i64 (n : Int), .map am]
 nil : am = none → (∀ k, f k = none) ∧ c = 0
 map : ∀ ab, am = some ab → MapAt Tryz.prog 3 litI w ab c (tookV f)
theorem WinAt.pu {w w' : World} {wb : Nat} {am : Option Nat} {n : Nat} {f : Nat → Option Bs} {c : Nat} (h : WinAt w wb am n f c) (hp : Pu w w') : WinAt w' wb am n f c := ⟨h.row.pu hp, h.nil, fun ab ha => (h.map ab ha).pu hp⟩
theorem WinAt.look {w : World} {wb : Nat} {am : Option Nat} {n : Nat} {f : Nat → Option Bs} {c : Nat} (h : WinAt w wb am n f c) (k : Nat) (hk : k ≤ 1000000) :
 (Instr.lookup 70 (.map am) (.int .i64 (k : Int)) false).run Tryz.prog w = .ok (.bool (f k).isSome) w := by
 cases ha : am with
 | none =>
   have h1 := nil_get keyInt Tryz.underlying70 (zeroBool w) k hk false
   rw [(h.nil ha).1 k]
   exact h1
 | some ab =>
   have h1 := (h.map ab ha).get keyInt Tryz.underlying70 (zeroBool w) k hk
   refine h1.trans ?_
   unfold tookV
   cases f k <;> rfl
set_option maxRecDepth 100000 in
theorem winNext {w : World} {wb : Nat} {am : Option Nat} {n : Nat} {f : Nat → Option Bs} {c : Nat} (h : WinAt w wb am n f c) :
 Calls Tryz.prog 86 #[.pointer (some ⟨wb, 0, none⟩)] w fun e w' => e = .returned (.int .i64 (n : Int)) ∧ w' = w := by
 have c0 := h.row.cell 0 (by simp)
 simp at c0
 go_enter Tryz.func86, Tryz.ntmps86
 go_wp2_with (go_at_call 30; refine (load64 _ _ _ c0).mono ?_; rintro e w1 ⟨rfl, rfl⟩)
 go_ret
 exact ⟨rfl, rfl⟩
set_option maxRecDepth 100000 in
theorem winMay {w : World} {wb : Nat} {am : Option Nat} {n : Nat} {f : Nat → Option Bs} {c : Nat} (h : WinAt w wb am n f c) (q : Nat) (hq : q ≤ 1000) (hn : n ≤ 1000) :
 Calls Tryz.prog 32 #[.pointer (some ⟨wb, 0, none⟩), .int .i64 (q : Int)] w fun e w' => e = .returned (.bool (decide (n ≤ q ∧ q < n + 64 ∧ (f q).isSome = false))) ∧ w' = w := by
 have hlk := h.look q (by omega)
 have H := Lib.hid h
 have c1 := h.row.cell 1 (by simp)
 simp at c1
 have hs : IntKind.i64.wrap ((q : Int) - n) = q - n := by rw [IntKind.wrap_i64]; omega
 clear h
 by_cases h1 : q < n
 · have q1 : ¬ (n : Int) ≤ q := by omega
   rw [decide_eq_false (by omega)]
   go_enter Tryz.func32, Tryz.ntmps32
   go_wp2_with (go_at_call 86; refine (winNext H.out).mono ?_; rintro e w1 ⟨rfl, rfl⟩)
   go_ret
   exact ⟨rfl, rfl⟩
 · have q1 : (n : Int) ≤ q := by omega
   by_cases h2 : q < n + 64
   · have q2 : (q : Int) - n < 64 := by omega
     have e2 : decide (n ≤ q ∧ q < n + 64 ∧ (f q).isSome = false) = (f q).isNone := by
      cases f q
      · simp; omega
      · simp
     rw [e2]
     clear e2
     go_enter Tryz.func32, Tryz.ntmps32
     go_wp2_with (go_at_call 86; refine (winNext H.out).mono ?_; rintro e w1 ⟨rfl, rfl⟩)
     go_ret
     exact ⟨rfl, rfl⟩
   · have q2 : ¬ (q : Int) - n < 64 := by omega
     rw [decide_eq_false (by omega)]
     go_enter Tryz.func32, Tryz.ntmps32
     go_wp2_with (go_at_call 86; refine (winNext H.out).mono ?_; rintro e w1 ⟨rfl, rfl⟩)
     go_ret
     exact ⟨rfl, rfl⟩
theorem tookV_upd (f : Nat → Option Bs) (q : Nat) (t : Bs) : upd (tookV f) q (some (.bool true)) = tookV (updF f q (some t)) := by
 funext k
 unfold upd tookV updF
 split <;> rfl
theorem tookV_cut (f : Nat → Option Bs) (n : Nat) : upd (tookV (cutF f n)) n none = tookV (cutF f (n+1)) := by
 funext k
 unfold upd tookV cutF
 by_cases h : k = n
 · rw [if_pos h, if_pos (by omega)]; rfl
 · rw [if_neg h]
   by_cases h2 : k < n
   · rw [if_pos h2, if_pos (by omega)]
   · rw [if_neg h2, if_neg (by omega)]
theorem cutF_low {f : Nat → Option Bs} {n : Nat} (h : ∀ k, k < n → f k = none) : cutF f n = f := by
 funext k
 unfold cutF
 split
 · next hk => rw [h k hk]
 · rfl
theorem updF_low {f : Nat → Option Bs} {n q : Nat} {t : Option Bs} (h : ∀ k, k < n → f k = none) (hq : n ≤ q) : ∀ k, k < n → updF f q t k = none := fun k hk => by
 unfold updF; rw [if_neg (by omega)]; exact h k hk
def winM (wb n : Nat) (w : World) : Nat := match w.cell? ⟨wb, 0, none⟩ with | some v => n - (intOf v).toNat | none => 0
theorem grown_cg {G : Nat → Prop} {w w' : World} {b : Nat} (h : w.grownBy w' (some b)) (hb : G b) : Cg G w w' := (Cg.refl G w).grown h hb
theorem WinAt.grown {w w' : World} {wb : Nat} {am : Option Nat} {n : Nat} {f : Nat → Option Bs} {c : Nat} (h : WinAt w wb am n f c) {b : Nat} (hp : w.grownBy w' (some b)) (h1 : wb ≠ b) (h2 : am ≠ some b) : WinAt w' wb am n f c :=
 ⟨h.row.grown hp (by simpa using h1), h.nil, fun ab ha => (h.map ab ha).other (hp.block ab (h.map ab ha).lt (by intro e; cases e; exact h2 ha))⟩
/-- A window behind one that was taken. -/
def TookR (w w' : World) (wb : Nat) (am : Option Nat) (n : Nat) (f : Nat → Option Bs) (c : Nat) : Prop :=
 Cg (fun g => g = wb ∨ am = some g) w w' ∧ ∃ ab, (am = some ab ∨ (w.heap.size ≤ ab ∧ ab < w'.heap.size)) ∧ WinAt w' wb (some ab) n f c
set_option maxRecDepth 100000 in
set_option maxHeartbeats 1600000 in
theorem winTake {w : World} {wb : Nat} {am : Option Nat} {n : Nat} {f : Nat → Option Bs} {c : Nat} (h : WinAt w wb am n f c) (q : Nat) (t : Bs) (out : List Bs) (hq1 : n ≤ q) (hq2 : q < n + 64) (hq3 : f q = none) (hn : n ≤ 500) (hc : c ≤ 100000)
 (hlow : ∀ k, k < n → f k = none) (hrun : IsRun (updF f q (some t)) n out) (hol : out.length ≤ 400) :
 Calls Tryz.prog 34 #[.pointer (some ⟨wb, 0, none⟩), .int .i64 (q : Int)] w fun e w' => e = .returned (.bool true) ∧ TookR w w' wb am (n + out.length) (cutF (updF f q (some t)) (n + out.length)) (c + 1 - out.length) := by
 have hmay := winMay h q (by omega) (by omega)
 rw [decide_eq_true ⟨hq1, hq2, by rw [hq3]; rfl⟩] at hmay
 have HM := Lib.hid hmay
 have hmm := @run_makeMap Tryz.prog
 have hne := mapNe
 have heq := mapEq
 have c1 := h.row.cell 1 (by simp)
 simp at c1
 have hr := h.row
 have hc9 : c < maxLen := by unfold maxLen; omega
 clear hmay
 cases am with
 | some ab =>
   have hmp := h.map ab rfl
   clear h
   go_enter Tryz.func34, Tryz.ntmps34
   go_wp2_with (first
    | (go_at_call 32; refine HM.out.mono ?_; rintro e w1 ⟨rfl, rfl⟩)
    | (at_mapUpdate; refine wpList_map_set _ rfl _ _ _ 70 rfl 4 keyInt Tryz.underlying70 ab c _ rfl hmp hc9 q (by omega) rfl (.bool true) rfl ?_; intro w5 hm5 hg5))
   have hr5 := hr.grown hg5 (by have := hmp.ne hr; simp; omega)
   have hc5 : Cg (fun g => g = wb ∨ some ab = some g) w1 w5 := grown_cg hg5 (.inr rfl)
   have hm5' : MapAt Tryz.prog 3 litI w5 ab (c + 1) (tookV (updF f q (some t))) := by
    have e1 : (tookV f q).isSome = false := by unfold tookV; rw [hq3]; rfl
    rw [e1] at hm5
    rw [← tookV_upd]; exact hm5
   have hw5 : WinAt w5 wb (some ab) (n + 0) (cutF (updF f q (some t)) (n + 0)) (c + 1 - 0) := ⟨hr5, fun h => (by cases h), fun ab' ha => by cases ha; have e9 : cutF (updF f q (some t)) n = updF f q (some t) := cutF_low (updF_low hlow hq1); simpa only [Nat.add_zero, Nat.sub_zero, e9] using hm5'⟩
   clear hm5 hm5' hr5
   have HRUN := Lib.hid hrun
   have cN : ∀ args w, (callFunc 86 args).run Tryz.prog w = .ok (.enter 86 args) w := fun args w => run_callFunc_body Tryz.func86 (by kernel_rfl) (by kernel_rfl) args w
   clear hrun hlow
   go_wp2_with fail
   (try dsimp only [Act.put])
   go_loopw [23] (fun _ wr => ∃ j : Nat, j ≤ out.length ∧ WinAt wr wb (some ab) (n + j) (cutF (updF f q (some t)) (n + j)) (c + 1 - j) ∧ Cg (fun g => g = wb ∨ some ab = some g) w1 wr) (fun _ wr => winM wb (n + out.length) wr)
   case atStart => exact ⟨0, Nat.zero_le _, hw5, hc5⟩
   case round =>
    clear hw5 hc5
    obtain ⟨j, hj, hwin, hcg⟩ := hrel
    have hcw : ∀ w', Pu wr w' → w'.cell? ⟨wb, 1, none⟩ = some (.map (some ab)) := fun w' hp => by
     have := (hwin.pu hp).row.cell 1 (by simp); simpa using this
    have hnx := fun w' (hp : Pu wr w') => winNext (hwin.pu hp)
    have hlk := fun w' (hp : Pu wr w') => (hwin.pu hp).look (n + j) (by omega)
    have e0 : cutF (updF f q (some t)) (n + j) (n + j) = updF f q (some t) (n + j) := by unfold cutF; rw [if_neg (by omega)]
    rw [e0] at hlk
    obtain ⟨N, hN⟩ : ∃ N, N = n + j := ⟨_, rfl⟩
    have HCW := Lib.hid hcw
    have HNX := Lib.hid hnx
    have HWIN := Lib.hid hwin
    by_cases hjl : j < out.length
    · have e1 : (updF f q (some t) (n + j)).isSome = true := by rw [HRUN.out.1 j hjl, List.getElem?_eq_getElem hjl]; rfl
      rw [e1] at hlk
      rw [← hN] at hlk HNX HWIN
      have HLK := Lib.hid hlk
      have HN := Lib.hid hN
      clear hcw hnx hlk hwin hN e0 e1
      go_wp2_with fail
      apply region_pu (Φs := (Is _ :: Is _ :: Is _ :: Is _ :: Is _ :: Is _ :: Is _ :: [])) (hm := by kernel_rfl) (hE := by kernel_rfl) (hD := by kernel_rfl) (hsize := by kernel_rfl)
      case hop =>
       refine ⟨?_, ?_, ?_, ?_, ?_, ?_, ?_, trivial⟩
       · intro a' w' hs hp he
         have e0 := hs 0 (by kernel_rfl)
         try simp [Is, Region.binds] at he
         exact op_v
       · intro a' w' hs hp he
         try simp [Is, Region.binds] at he
         exact op_v
       · intro a' w' hs hp he
         try simp [Is, Region.binds] at he
         exact op_v
       · intro a' w' hs hp he
         try simp [Is, Region.binds] at he
         have hc := HCW.out _ hp; exact op_val rfl (wanted_none rfl) (by first | (go_simp; done) | (go_simp; rfl)) rfl (Pu.refl _)
       · intro a' w' hs hp he
         have e0 := hs 0 (by kernel_rfl)
         try simp [Is, Region.binds] at he
         exact op_v
       · intro a' w' hs hp he
         try simp [Is, Region.binds] at he
         exact op_callV (HNX.out _ hp) rfl (wanted_none rfl) (by first | (go_simp; done) | (go_simp; rfl)) rfl
       · intro a' w' hs hp he
         try simp [Is, Region.binds] at he
         have hlk := HLK.out _ hp; exact op_val rfl (wanted_none rfl) (by first | (go_simp; done) | (go_simp; rfl)) rfl (Pu.refl _)
      case hend =>
       intro a' w' hdef hsz hs hp hall
       obtain ⟨r0, r1, r2, r3, r4, r5, r6, -⟩ := hall
       have hA := agree_done (agree_step (agree_step (agree_step (agree_step (agree_step (agree_step (agree_step (agree_init [23, 24, 25, 26, 27, 28, 29] hsz hs (by kernel_rfl)) r0) r1) r2) r3) r4) r5) r6)
       have ha := act_of hA hdef
       rw [ha]
       clear ha hA hs hsz hdef r0 r1 r2 r3 r4 r5 r6 
       (try simp only [List.setIfInBounds_toArray])
       (try dsimp only [List.set_cons_zero, List.set_cons_succ])
       (try simp only [Exit.then])
       rename World => wa
       have HP6 := Lib.hid hp
       clear hp
       go_wp2_with fail
       have hcw' : ∀ w'', Pu wa w'' → w''.cell? ⟨wb, 1, none⟩ = some (.map (some ab)) := fun w'' hp => HCW.out w'' (HP6.out.trans hp)
       have hnx' := fun w'' (hp : Pu wa w'') => HNX.out w'' (HP6.out.trans hp)
       have HCW2 := Lib.hid hcw'
       have HNX2 := Lib.hid hnx'
       have hmpw := (HWIN.out.pu HP6.out).map ab rfl
       have hrww := (HWIN.out.pu HP6.out).row
       have hcc : (if (tookV (cutF (updF f q (some t)) N) N).isSome then c + 1 - j - 1 else c + 1 - j) = c + 1 - (j + 1) := by
        have e0 : cutF (updF f q (some t)) N N = updF f q (some t) N := by unfold cutF; rw [if_neg (by omega)]
        have e1 : (updF f q (some t) N).isSome = true := by rw [HN.out, HRUN.out.1 j hjl, List.getElem?_eq_getElem hjl]; rfl
        rw [if_pos (by unfold tookV; rw [e0]; cases h9 : updF f q (some t) N with | none => rw [h9] at e1; cases e1 | some x => rfl)]
        omega
       have HCC := Lib.hid hcc
       have HMW := Lib.hid hmpw
       have HRW := Lib.hid hrww
       clear hcw' hnx' hmpw hrww hcc
       apply region_last (n := 6) (hn := by kernel_rfl) (hlast := rfl) (hU := by kernel_rfl) (Φs := (Is _ :: Is _ :: Is _ :: Is _ :: Is _ :: Is _ :: [])) (hm := by kernel_rfl) (hE := by kernel_rfl) (hD := by kernel_rfl) (hsize := by kernel_rfl)
       case hop =>
        refine ⟨?_, ?_, ?_, ?_, ?_, ?_, trivial⟩
        · intro a' w' hs hp he
          have e0 := hs 0 (by kernel_rfl)
          try simp [Is, Region.binds] at he
          exact op_v
        · intro a' w' hs hp he
          try simp [Is, Region.binds] at he
          exact op_v
        · intro a' w' hs hp he
          try simp [Is, Region.binds] at he
          exact op_v
        · intro a' w' hs hp he
          try simp [Is, Region.binds] at he
          have hc := HCW2.out _ hp; exact op_val rfl (wanted_none rfl) (by first | (go_simp; done) | (go_simp; rfl)) rfl (Pu.refl _)
        · intro a' w' hs hp he
          have e0 := hs 0 (by kernel_rfl)
          try simp [Is, Region.binds] at he
          exact op_v
        · intro a' w' hs hp he
          try simp [Is, Region.binds] at he
          exact op_callV (HNX2.out _ hp) rfl (wanted_none rfl) (by first | (go_simp; done) | (go_simp; rfl)) rfl
       case hend =>
        intro a' w' hdef hsz hs hp hall
        obtain ⟨r0, r1, r2, r3, r4, r5, -⟩ := hall
        have hA := agree_done (agree_step (agree_step (agree_step (agree_step (agree_step (agree_step (agree_init [30, 31, 32, 33, 34, 35] hsz hs (by kernel_rfl)) r0) r1) r2) r3) r4) r5)
        have ha := act_of hA hdef
        rw [ha]
        clear ha hA hs hsz hdef r0 r1 r2 r3 r4 r5 
        (try simp only [List.setIfInBounds_toArray])
        (try dsimp only [List.set_cons_zero, List.set_cons_succ])
        (try simp only [Exit.then])
        obtain ⟨w8, hrun8, hm8, hg8⟩ := (HMW.out.pu hp).del keyInt Tryz.underlying70 N (by have := HN.out; omega) 0; change (Builtin.delete_ #[70, 3] 0 #[.map (some ab), .int .i64 (N : Int)]).run Tryz.prog w' = .ok (.tuple #[]) w8 at hrun8; refine op_run rfl (wanted_none rfl) (by first | (go_simp; done) | (go_simp; exact ⟨rfl, rfl⟩) | (go_simp; rfl)) ?_
        (try simp only [Exit.inBlock, Exit.then])
        rw [HCC.out, tookV_cut] at hm8
        have hn8 := (HMW.out.pu hp).ne (HRW.out.pu hp)
        have hr8 := (HRW.out.pu hp).grown hg8 (by simp; omega)
        have c08 := hr8.cell 0 (by simp)
        have f08 := hr8.frozen 0 (by simp)
        simp at c08
        (try dsimp only [Act.put])
        go_wp2_with (go_at_call 24; refine (add64 _ _ _ (by have := HN.out; omega) c08 f08).mono ?_; rintro e w9 ⟨rfl, rfl⟩)
        go_roundw
        case rel =>
         have hr9 := hr8.set 0 (.int .i64 ((N : Int) + 1))
         refine ⟨j + 1, by omega, ⟨?_, fun h => (by cases h), fun ab' ha => ?_⟩, (((hcg.pu HP6.out).pu hp).grown' hg8 (fun q' e' => .inl (.inr e'))).andThen (H := fun g => g = wb ∨ some ab = some g) (Cg.ofBut (But.set _ _ _) (.inl rfl)) (fun g hg => .inl hg)⟩
         · have e9 : ((n + (j + 1) : Nat) : Int) = (N : Int) + 1 := by have := HN.out; omega
           rw [e9]; simpa using hr9
         · cases ha
           have e9 : n + (j + 1) = N + 1 := by have := HN.out; omega
           rw [e9]
           exact hm8.other (Below.heap_setCell _ _ _ _ hn8)
        case measure =>
         have cw0 := HWIN.out.row.cell 0 (by simp)
         simp at cw0
         have cz := (hr8.set 0 (.int .i64 ((N : Int) + 1))).cell 0 (by simp)
         simp at cz
         have := HN.out
         simp only [winM, cw0, cz, intOf]
         omega
    · obtain rfl : j = out.length := by omega
      have e1 : (updF f q (some t) (n + out.length)).isSome = false := by rw [HRUN.out.2]; rfl
      rw [e1] at hlk
      rw [← hN] at hlk HNX
      have HLK := Lib.hid hlk
      have HN := Lib.hid hN
      clear hcw hnx hlk hwin hN e0 e1
      go_wp2_with fail
      apply region_pu (Φs := (Is _ :: Is _ :: Is _ :: Is _ :: Is _ :: Is _ :: Is _ :: [])) (hm := by kernel_rfl) (hE := by kernel_rfl) (hD := by kernel_rfl) (hsize := by kernel_rfl)
      case hop =>
       refine ⟨?_, ?_, ?_, ?_, ?_, ?_, ?_, trivial⟩
       · intro a' w' hs hp he
         have e0 := hs 0 (by kernel_rfl)
         try simp [Is, Region.binds] at he
         exact op_v
       · intro a' w' hs hp he
         try simp [Is, Region.binds] at he
         exact op_v
       · intro a' w' hs hp he
         try simp [Is, Region.binds] at he
         exact op_v
       · intro a' w' hs hp he
         try simp [Is, Region.binds] at he
         have hc := HCW.out _ hp; exact op_val rfl (wanted_none rfl) (by first | (go_simp; done) | (go_simp; rfl)) rfl (Pu.refl _)
       · intro a' w' hs hp he
         have e0 := hs 0 (by kernel_rfl)
         try simp [Is, Region.binds] at he
         exact op_v
       · intro a' w' hs hp he
         try simp [Is, Region.binds] at he
         exact op_callV (HNX.out _ hp) rfl (wanted_none rfl) (by first | (go_simp; done) | (go_simp; rfl)) rfl
       · intro a' w' hs hp he
         try simp [Is, Region.binds] at he
         have hlk := HLK.out _ hp; exact op_val rfl (wanted_none rfl) (by first | (go_simp; done) | (go_simp; rfl)) rfl (Pu.refl _)
      case hend =>
       intro a' w' hdef hsz hs hp hall
       obtain ⟨r0, r1, r2, r3, r4, r5, r6, -⟩ := hall
       have hA := agree_done (agree_step (agree_step (agree_step (agree_step (agree_step (agree_step (agree_step (agree_init [23, 24, 25, 26, 27, 28, 29] hsz hs (by kernel_rfl)) r0) r1) r2) r3) r4) r5) r6)
       have ha := act_of hA hdef
       rw [ha]
       clear ha hA hs hsz hdef r0 r1 r2 r3 r4 r5 r6 
       (try simp only [List.setIfInBounds_toArray])
       (try dsimp only [List.set_cons_zero, List.set_cons_succ])
       (try simp only [Exit.then])
       go_wp2_with fail
       go_ret
       exact ⟨rfl, hcg.pu hp, ab, .inl rfl, HWIN.out.pu hp⟩
 | none =>
   obtain ⟨hf, hc0⟩ := h.nil rfl
   have hff : f = fun _ => none := funext hf
   have hb := hr.lt
   have hmp : MapAt Tryz.prog 3 litI ((w.setCell ⟨wb, 1, none⟩ (.map (some w.heap.size))).alloc (.map #[] 0)) w.heap.size c (tookV f) := by
    rw [hc0]
    have e9 : tookV f = fun _ => none := by funext k; unfold tookV; rw [hf k]; rfl
    rw [e9]
    have h9 := MapAt.made (P := Tryz.prog) (kt := 3) (lit := litI) (w.setCell ⟨wb, 1, none⟩ (.map (some w.heap.size)))
    simpa using h9
   have hcA := (hr.alloc (.map #[] 0)).cell 1 (by simp)
   have hfA := (hr.alloc (.map #[] 0)).frozen 1 (by simp)
   simp at hcA
   have hrA := (hr.set 1 (.map (some w.heap.size))).alloc (.map #[] 0)
   have hcg0 : Cg (fun g => g = wb ∨ none = some g) w ((w.setCell ⟨wb, 1, none⟩ (.map (some w.heap.size))).alloc (.map #[] 0)) := (Cg.ofBut (But.set _ _ _) (.inl rfl)).pu ((Pu.refl _).alloc _)
   have hsz0 : ((w.setCell ⟨wb, 1, none⟩ (.map (some w.heap.size))).alloc (.map #[] 0)).heap.size = w.heap.size + 1 := by simp
   clear h
   go_enter Tryz.func34, Tryz.ntmps34
   go_wp2_with (first
    | (go_at_call 32; refine HM.out.mono ?_; rintro e w1 ⟨rfl, rfl⟩)
    | (at_mapUpdate; refine wpList_map_set _ rfl _ _ _ 70 rfl 4 keyInt Tryz.underlying70 w1.heap.size c _ rfl hmp hc9 q (by omega) rfl (.bool true) rfl ?_; intro w5 hm5 hg5))
   have hr5 := hrA.grown hg5 (by simp; omega)
   simp at hr5
   obtain ⟨ab, hab⟩ : ∃ ab, ab = w1.heap.size := ⟨_, rfl⟩
   have hsz5 := hg5.size
   rw [hsz0] at hsz5
   have hab5 : w1.heap.size ≤ ab ∧ ab < w5.heap.size := by omega
   have hc5 : Cg (fun g => g = wb ∨ none = some g) w1 w5 := hcg0.grown' hg5 (fun q' e' => .inr (by cases e'; exact Nat.le_refl _))
   rw [← hab] at hm5 hr5 hg5 ⊢
   clear hcA hfA hrA hcg0 hsz0 hmp hsz5 hab c1
   clear hc0 hf hff
   have hm5' : MapAt Tryz.prog 3 litI w5 ab (c + 1) (tookV (updF f q (some t))) := by
    have e1 : (tookV f q).isSome = false := by unfold tookV; rw [hq3]; rfl
    rw [e1] at hm5
    rw [← tookV_upd]; exact hm5
   have hw5 : WinAt w5 wb (some ab) (n + 0) (cutF (updF f q (some t)) (n + 0)) (c + 1 - 0) := ⟨hr5, fun h => (by cases h), fun ab' ha => by cases ha; have e9 : cutF (updF f q (some t)) n = updF f q (some t) := cutF_low (updF_low hlow hq1); simpa only [Nat.add_zero, Nat.sub_zero, e9] using hm5'⟩
   clear hm5 hm5' hr5
   have HRUN := Lib.hid hrun
   have cN : ∀ args w, (callFunc 86 args).run Tryz.prog w = .ok (.enter 86 args) w := fun args w => run_callFunc_body Tryz.func86 (by kernel_rfl) (by kernel_rfl) args w
   clear hrun hlow
   go_wp2_with fail
   (try dsimp only [Act.put])
   go_loopw [23] (fun _ wr => ∃ j : Nat, j ≤ out.length ∧ WinAt wr wb (some ab) (n + j) (cutF (updF f q (some t)) (n + j)) (c + 1 - j) ∧ Cg (fun g => g = wb ∨ none = some g) w1 wr) (fun _ wr => winM wb (n + out.length) wr)
   case atStart => exact ⟨0, Nat.zero_le _, hw5, hc5⟩
   case round =>
    clear hw5 hc5
    obtain ⟨j, hj, hwin, hcg⟩ := hrel
    have hcw : ∀ w', Pu wr w' → w'.cell? ⟨wb, 1, none⟩ = some (.map (some ab)) := fun w' hp => by
     have := (hwin.pu hp).row.cell 1 (by simp); simpa using this
    have hnx := fun w' (hp : Pu wr w') => winNext (hwin.pu hp)
    have hlk := fun w' (hp : Pu wr w') => (hwin.pu hp).look (n + j) (by omega)
    have e0 : cutF (updF f q (some t)) (n + j) (n + j) = updF f q (some t) (n + j) := by unfold cutF; rw [if_neg (by omega)]
    rw [e0] at hlk
    obtain ⟨N, hN⟩ : ∃ N, N = n + j := ⟨_, rfl⟩
    have HCW := Lib.hid hcw
    have HNX := Lib.hid hnx
    have HWIN := Lib.hid hwin
    by_cases hjl : j < out.length
    · have e1 : (updF f q (some t) (n + j)).isSome = true := by rw [HRUN.out.1 j hjl, List.getElem?_eq_getElem hjl]; rfl
      rw [e1] at hlk
      rw [← hN] at hlk HNX HWIN
      have HLK := Lib.hid hlk
      have HN := Lib.hid hN
      clear hcw hnx hlk hwin hN e0 e1
      go_wp2_with fail
      apply region_pu (Φs := (Is _ :: Is _ :: Is _ :: Is _ :: Is _ :: Is _ :: Is _ :: [])) (hm := by kernel_rfl) (hE := by kernel_rfl) (hD := by kernel_rfl) (hsize := by kernel_rfl)
      case hop =>
       refine ⟨?_, ?_, ?_, ?_, ?_, ?_, ?_, trivial⟩
       · intro a' w' hs hp he
         have e0 := hs 0 (by kernel_rfl)
         try simp [Is, Region.binds] at he
         exact op_v
       · intro a' w' hs hp he
         try simp [Is, Region.binds] at he
         exact op_v
       · intro a' w' hs hp he
         try simp [Is, Region.binds] at he
         exact op_v
       · intro a' w' hs hp he
         try simp [Is, Region.binds] at he
         have hc := HCW.out _ hp; exact op_val rfl (wanted_none rfl) (by first | (go_simp; done) | (go_simp; rfl)) rfl (Pu.refl _)
       · intro a' w' hs hp he
         have e0 := hs 0 (by kernel_rfl)
         try simp [Is, Region.binds] at he
         exact op_v
       · intro a' w' hs hp he
         try simp [Is, Region.binds] at he
         exact op_callV (HNX.out _ hp) rfl (wanted_none rfl) (by first | (go_simp; done) | (go_simp; rfl)) rfl
       · intro a' w' hs hp he
         try simp [Is, Region.binds] at he
         have hlk := HLK.out _ hp; exact op_val rfl (wanted_none rfl) (by first | (go_simp; done) | (go_simp; rfl)) rfl (Pu.refl _)
      case hend =>
       intro a' w' hdef hsz hs hp hall
       obtain ⟨r0, r1, r2, r3, r4, r5, r6, -⟩ := hall
       have hA := agree_done (agree_step (agree_step (agree_step (agree_step (agree_step (agree_step (agree_step (agree_init [23, 24, 25, 26, 27, 28, 29] hsz hs (by kernel_rfl)) r0) r1) r2) r3) r4) r5) r6)
       have ha := act_of hA hdef
       rw [ha]
       clear ha hA hs hsz hdef r0 r1 r2 r3 r4 r5 r6 
       (try simp only [List.setIfInBounds_toArray])
       (try dsimp only [List.set_cons_zero, List.set_cons_succ])
       (try simp only [Exit.then])
       rename World => wa
       have HP6 := Lib.hid hp
       clear hp
       go_wp2_with fail
       have hcw' : ∀ w'', Pu wa w'' → w''.cell? ⟨wb, 1, none⟩ = some (.map (some ab)) := fun w'' hp => HCW.out w'' (HP6.out.trans hp)
       have hnx' := fun w'' (hp : Pu wa w'') => HNX.out w'' (HP6.out.trans hp)
       have HCW2 := Lib.hid hcw'
       have HNX2 := Lib.hid hnx'
       have hmpw := (HWIN.out.pu HP6.out).map ab rfl
       have hrww := (HWIN.out.pu HP6.out).row
       have hcc : (if (tookV (cutF (updF f q (some t)) N) N).isSome then c + 1 - j - 1 else c + 1 - j) = c + 1 - (j + 1) := by
        have e0 : cutF (updF f q (some t)) N N = updF f q (some t) N := by unfold cutF; rw [if_neg (by omega)]
        have e1 : (updF f q (some t) N).isSome = true := by rw [HN.out, HRUN.out.1 j hjl, List.getElem?_eq_getElem hjl]; rfl
        rw [if_pos (by unfold tookV; rw [e0]; cases h9 : updF f q (some t) N with | none => rw [h9] at e1; cases e1 | some x => rfl)]
        omega
       have HCC := Lib.hid hcc
       have HMW := Lib.hid hmpw
       have HRW := Lib.hid hrww
       clear hcw' hnx' hmpw hrww hcc
       apply region_last (n := 6) (hn := by kernel_rfl) (hlast := rfl) (hU := by kernel_rfl) (Φs := (Is _ :: Is _ :: Is _ :: Is _ :: Is _ :: Is _ :: [])) (hm := by kernel_rfl) (hE := by kernel_rfl) (hD := by kernel_rfl) (hsize := by kernel_rfl)
       case hop =>
        refine ⟨?_, ?_, ?_, ?_, ?_, ?_, trivial⟩
        · intro a' w' hs hp he
          have e0 := hs 0 (by kernel_rfl)
          try simp [Is, Region.binds] at he
          exact op_v
        · intro a' w' hs hp he
          try simp [Is, Region.binds] at he
          exact op_v
        · intro a' w' hs hp he
          try simp [Is, Region.binds] at he
          exact op_v
        · intro a' w' hs hp he
          try simp [Is, Region.binds] at he
          have hc := HCW2.out _ hp; exact op_val rfl (wanted_none rfl) (by first | (go_simp; done) | (go_simp; rfl)) rfl (Pu.refl _)
        · intro a' w' hs hp he
          have e0 := hs 0 (by kernel_rfl)
          try simp [Is, Region.binds] at he
          exact op_v
        · intro a' w' hs hp he
          try simp [Is, Region.binds] at he
          exact op_callV (HNX2.out _ hp) rfl (wanted_none rfl) (by first | (go_simp; done) | (go_simp; rfl)) rfl
       case hend =>
        intro a' w' hdef hsz hs hp hall
        obtain ⟨r0, r1, r2, r3, r4, r5, -⟩ := hall
        have hA := agree_done (agree_step (agree_step (agree_step (agree_step (agree_step (agree_step (agree_init [30, 31, 32, 33, 34, 35] hsz hs (by kernel_rfl)) r0) r1) r2) r3) r4) r5)
        have ha := act_of hA hdef
        rw [ha]
        clear ha hA hs hsz hdef r0 r1 r2 r3 r4 r5 
        (try simp only [List.setIfInBounds_toArray])
        (try dsimp only [List.set_cons_zero, List.set_cons_succ])
        (try simp only [Exit.then])
        obtain ⟨w8, hrun8, hm8, hg8⟩ := (HMW.out.pu hp).del keyInt Tryz.underlying70 N (by have := HN.out; omega) 0; change (Builtin.delete_ #[70, 3] 0 #[.map (some ab), .int .i64 (N : Int)]).run Tryz.prog w' = .ok (.tuple #[]) w8 at hrun8; refine op_run rfl (wanted_none rfl) (by first | (go_simp; done) | (go_simp; exact ⟨rfl, rfl⟩) | (go_simp; rfl)) ?_
        (try simp only [Exit.inBlock, Exit.then])
        rw [HCC.out, tookV_cut] at hm8
        have hn8 := (HMW.out.pu hp).ne (HRW.out.pu hp)
        have hr8 := (HRW.out.pu hp).grown hg8 (by simp; omega)
        have c08 := hr8.cell 0 (by simp)
        have f08 := hr8.frozen 0 (by simp)
        simp at c08
        (try dsimp only [Act.put])
        go_wp2_with (go_at_call 24; refine (add64 _ _ _ (by have := HN.out; omega) c08 f08).mono ?_; rintro e w9 ⟨rfl, rfl⟩)
        go_roundw
        case rel =>
         have hr9 := hr8.set 0 (.int .i64 ((N : Int) + 1))
         refine ⟨j + 1, by omega, ⟨?_, fun h => (by cases h), fun ab' ha => ?_⟩, (((hcg.pu HP6.out).pu hp).grown' hg8 (fun q' e' => .inr (by cases e'; exact hab5.1))).andThen (H := fun g => g = wb ∨ (none : Option Nat) = some g) (Cg.ofBut (But.set _ _ _) (.inl rfl)) (fun g hg => .inl hg)⟩
         · have e9 : ((n + (j + 1) : Nat) : Int) = (N : Int) + 1 := by have := HN.out; omega
           rw [e9]; simpa using hr9
         · cases ha
           have e9 : n + (j + 1) = N + 1 := by have := HN.out; omega
           rw [e9]
           exact hm8.other (Below.heap_setCell _ _ _ _ hn8)
        case measure =>
         have cw0 := HWIN.out.row.cell 0 (by simp)
         simp at cw0
         have cz := (hr8.set 0 (.int .i64 ((N : Int) + 1))).cell 0 (by simp)
         simp at cz
         have := HN.out
         simp only [winM, cw0, cz, intOf]
         omega
    · obtain rfl : j = out.length := by omega
      have e1 : (updF f q (some t) (n + out.length)).isSome = false := by rw [HRUN.out.2]; rfl
      rw [e1] at hlk
      rw [← hN] at hlk HNX
      have HLK := Lib.hid hlk
      have HN := Lib.hid hN
      clear hcw hnx hlk hwin hN e0 e1
      go_wp2_with fail
      apply region_pu (Φs := (Is _ :: Is _ :: Is _ :: Is _ :: Is _ :: Is _ :: Is _ :: [])) (hm := by kernel_rfl) (hE := by kernel_rfl) (hD := by kernel_rfl) (hsize := by kernel_rfl)
      case hop =>
       refine ⟨?_, ?_, ?_, ?_, ?_, ?_, ?_, trivial⟩
       · intro a' w' hs hp he
         have e0 := hs 0 (by kernel_rfl)
         try simp [Is, Region.binds] at he
         exact op_v
       · intro a' w' hs hp he
         try simp [Is, Region.binds] at he
         exact op_v
       · intro a' w' hs hp he
         try simp [Is, Region.binds] at he
         exact op_v
       · intro a' w' hs hp he
         try simp [Is, Region.binds] at he
         have hc := HCW.out _ hp; exact op_val rfl (wanted_none rfl) (by first | (go_simp; done) | (go_simp; rfl)) rfl (Pu.refl _)
       · intro a' w' hs hp he
         have e0 := hs 0 (by kernel_rfl)
         try simp [Is, Region.binds] at he
         exact op_v
       · intro a' w' hs hp he
         try simp [Is, Region.binds] at he
         exact op_callV (HNX.out _ hp) rfl (wanted_none rfl) (by first | (go_simp; done) | (go_simp; rfl)) rfl
       · intro a' w' hs hp he
         try simp [Is, Region.binds] at he
         have hlk := HLK.out _ hp; exact op_val rfl (wanted_none rfl) (by first | (go_simp; done) | (go_simp; rfl)) rfl (Pu.refl _)
      case hend =>
       intro a' w' hdef hsz hs hp hall
       obtain ⟨r0, r1, r2, r3, r4, r5, r6, -⟩ := hall
       have hA := agree_done (agree_step (agree_step (agree_step (agree_step (agree_step (agree_step (agree_step (agree_init [23, 24, 25, 26, 27, 28, 29] hsz hs (by kernel_rfl)) r0) r1) r2) r3) r4) r5) r6)
       have ha := act_of hA hdef
       rw [ha]
       clear ha hA hs hsz hdef r0 r1 r2 r3 r4 r5 r6 
       (try simp only [List.setIfInBounds_toArray])
       (try dsimp only [List.set_cons_zero, List.set_cons_succ])
       (try simp only [Exit.then])
       go_wp2_with fail
       go_ret
       exact ⟨rfl, hcg.pu hp, ab, .inr ⟨hab5.1, ((HWIN.out.pu hp).map ab rfl).lt⟩, HWIN.out.pu hp⟩
end Go.Proofs.YtoakccknimoogaaGreat
set_option linter.unusedSimpArgs false
set_option linter.unusedVariables false
namespace Go.Proofs.YtoakccknimoogaaGreat
open Go.RowKit Go.Esc
/-- The texts that wait, as a map has them. -/
def textV (f : Nat → Option Bs) : Nat → Option Value := fun k => (f k).map S
theorem zeroStr (w : World) : (zeroValue 9).run Tryz.prog w = .ok (.string ⟨#[]⟩) w := by kernel_rfl
/-- The parts of an In. -/
structure InP (G : Nat → Prop) (w : World) (ib tb mb wb lb : Nat) (am : Option Nat) (key : Bs) (m : Nat) (s : InS) : Prop where
 row : Row w ib 75 [.pointer (some ⟨tb, 0, none⟩), .pointer (some ⟨wb, 0, none⟩), .int .i64 (s.n : Int), .map (some lb)]
 turns : Turns G w tb mb key m
 win : WinAt w wb am s.n s.f s.c
 l : MapAt Tryz.prog 3 litI w lb s.c (textV s.f)
 gt : G tb
 gm : G mb
 gw : G wb
 gl : G lb
 gi : G ib
 ga : ∀ ab, am = some ab → G ab
 nml : mb ≠ lb
 nma : am ≠ some mb
 nla : am ≠ some lb
 dom : ∀ g, G g → g < w.heap.size
 ok : s.Ok
 c : s.c ≤ m
/-- An In: what was told, what waits; m: how often one was opened at most. -/
def InAt (G : Nat → Prop) (w : World) (ib : Nat) (key : Bs) (m : Nat) (s : InS) : Prop := ∃ tb mb wb lb am, InP G w ib tb mb wb lb am key m s
theorem WinAt.cg {H : Nat → Prop} {w w' : World} {wb : Nat} {am : Option Nat} {n : Nat} {f : Nat → Option Bs} {c : Nat} (h : WinAt w wb am n f c) (hp : Cg H w w') (h1 : ¬ H wb) (h2 : ∀ ab, am = some ab → ¬ H ab) : WinAt w' wb am n f c :=
 ⟨hp.row h.row h1, h.nil, fun ab ha => (h.map ab ha).other (hp.block ab (h.map ab ha).lt (h2 ab ha))⟩
theorem InP.cg {G H : Nat → Prop} {w w' : World} {ib tb mb wb lb : Nat} {am : Option Nat} {key : Bs} {m : Nat} {s : InS} (h : InP G w ib tb mb wb lb am key m s) (hp : Cg H w w') (hd : ∀ g, H g → ¬ G g) : InP G w' ib tb mb wb lb am key m s :=
 ⟨hp.row h.row (fun e => hd _ e h.gi), h.turns.cg hp h.gt h.gm hd, h.win.cg hp (fun e => hd _ e h.gw) (fun ab ha e => hd _ e (h.ga ab ha)), h.l.other (hp.block lb h.l.lt (fun e => hd _ e h.gl)), h.gt, h.gm, h.gw, h.gl, h.gi, h.ga, h.nml, h.nma, h.nla, fun g hg => Nat.lt_of_lt_of_le (h.dom g hg) hp.size, h.ok, h.c⟩
theorem InAt.cg {G H : Nat → Prop} {w w' : World} {ib : Nat} {key : Bs} {m : Nat} {s : InS} (h : InAt G w ib key m s) (hp : Cg H w w') (hd : ∀ g, H g → ¬ G g) : InAt G w' ib key m s := by
 obtain ⟨tb, mb, wb, lb, am, h⟩ := h
 exact ⟨tb, mb, wb, lb, am, h.cg hp hd⟩
theorem InAt.pu {G : Nat → Prop} {w w' : World} {ib : Nat} {key : Bs} {m : Nat} {s : InS} (h : InAt G w ib key m s) (hp : Pu w w') : InAt G w' ib key m s := h.cg (H := fun _ => False) (Cg.ofPu hp) (fun _ h => h.elim)
theorem InAt.ok {G : Nat → Prop} {w : World} {ib : Nat} {key : Bs} {m : Nat} {s : InS} (h : InAt G w ib key m s) : s.Ok := by
 obtain ⟨tb, mb, wb, lb, am, h⟩ := h; exact h.ok
theorem InAt.dom {G : Nat → Prop} {w : World} {ib : Nat} {key : Bs} {m : Nat} {s : InS} (h : InAt G w ib key m s) : ∀ g, G g → g < w.heap.size := by
 obtain ⟨tb, mb, wb, lb, am, h⟩ := h; exact h.dom
def s0 : InS := ⟨0, fun _ => none, 0⟩
theorem s0_ok : s0.Ok := ⟨fun k h => (by cases h), by decide⟩
set_option maxRecDepth 100000 in
theorem newIn (key : Bs) (hk : key.length = 32) (w : World) :
 Calls Tryz.prog 8 #[S key] w fun e w' => ∃ ib, e = .returned (.pointer (some ⟨ib, 0, none⟩)) ∧ InAt (Gw (fun _ => False) w w') w' ib key 0 s0 ∧ Pu w w' := by
 have hk' : ((key.length : Int) == 32) = true := by simp; omega
 have hk2 : (key.length : Int) = 32 := by omega
 have hmm := @run_makeMap Tryz.prog
 go_enter Tryz.func8, Tryz.ntmps8
 go_wp2_with fail
 go_ret
 have p1 := (Pu.refl w).alloc (.map #[] 0)
 have p2 := (Pu.refl (w.alloc (.map #[] 0))).alloc (.cells #[S key, .map (some w.heap.size)] 61)
 have p3 := (Pu.refl ((w.alloc (.map #[] 0)).alloc (.cells #[S key, .map (some w.heap.size)] 61))).alloc (.cells #[.int .i64 0, .map none] 72)
 have p4 := (Pu.refl (((w.alloc (.map #[] 0)).alloc (.cells #[S key, .map (some w.heap.size)] 61)).alloc (.cells #[.int .i64 0, .map none] 72))).alloc (.map #[] 0)
 have p5 := (Pu.refl ((((w.alloc (.map #[] 0)).alloc (.cells #[S key, .map (some w.heap.size)] 61)).alloc (.cells #[.int .i64 0, .map none] 72)).alloc (.map #[] 0))).alloc (.cells #[.pointer (some ⟨w.heap.size + 1, 0, none⟩), .pointer (some ⟨w.heap.size + 1 + 1, 0, none⟩), .int .i64 0, .map (some (w.heap.size + 1 + 1 + 1))] 75)
 have m4 := MapAt.made (P := Tryz.prog) (kt := 3) (lit := litI) (((w.alloc (.map #[] 0)).alloc (.cells #[S key, .map (some w.heap.size)] 61)).alloc (.cells #[.int .i64 0, .map none] 72))
 refine ⟨w.heap.size + 1 + 1 + 1 + 1, rfl, ⟨w.heap.size + 1, w.heap.size, w.heap.size + 1 + 1, w.heap.size + 1 + 1 + 1, none, ⟨?_, ⟨fun _ => none, 0, ?_, ?_, Nat.le_refl _, fun e v h => by cases h⟩, ⟨?_, fun _ => ⟨fun _ => rfl, rfl⟩, fun ab h => by cases h⟩, ?_, .inr ⟨by omega, by first | (simp; done) | (simp; omega)⟩, .inr ⟨by omega, by first | (simp; done) | (simp; omega)⟩, .inr ⟨by omega, by first | (simp; done) | (simp; omega)⟩, .inr ⟨by omega, by simp⟩, .inr ⟨by omega, by simp⟩, fun ab h => (by cases h), by omega, by simp, by simp, Gw.dom (fun _ h => h.elim) (by simp; omega), s0_ok, Nat.le_refl _⟩⟩, (((p1.trans p2).trans p3).trans p4).trans p5⟩
 · exact Row.newAt _ _ _ _ (by simp) rfl
 · exact (Row.newAt _ _ _ _ (by simp) rfl).pu ((p3.trans p4).trans p5)
 · exact (MapAt.made w).pu (((p2.trans p3).trans p4).trans p5)
 · exact (Row.newAt _ _ _ _ (by simp) rfl).pu (p4.trans p5)
 · have := m4.pu p5
   simp at this
   exact this
set_option maxRecDepth 100000 in
theorem inNext {G : Nat → Prop} {w : World} {ib : Nat} {key : Bs} {m : Nat} {s : InS} (h : InAt G w ib key m s) :
 Calls Tryz.prog 16 #[.pointer (some ⟨ib, 0, none⟩)] w fun e w' => e = .returned (.int .i64 (s.n : Int)) ∧ w' = w := by
 obtain ⟨tb, mb, wb, lb, am, h⟩ := h
 have c2 := h.row.cell 2 (by simp)
 simp at c2
 clear h
 go_enter Tryz.func16, Tryz.ntmps16
 go_wp2_with (go_at_call 30; refine (load64 _ _ _ c2).mono ?_; rintro e w1 ⟨rfl, rfl⟩)
 go_ret
 exact ⟨rfl, rfl⟩
set_option maxRecDepth 100000 in
theorem inWaits {G : Nat → Prop} {w : World} {ib : Nat} {key : Bs} {m : Nat} {s : InS} (h : InAt G w ib key m s) :
 Calls Tryz.prog 17 #[.pointer (some ⟨ib, 0, none⟩)] w fun e w' => e = .returned (.int .i64 (s.c : Int)) ∧ w' = w := by
 obtain ⟨tb, mb, wb, lb, am, h⟩ := h
 have c3 := h.row.cell 3 (by simp)
 have hl := fun ty => h.l.len (t := 73) (e := 9) Tryz.underlying73 ty
 simp at c3
 clear h
 go_enter Tryz.func17, Tryz.ntmps17
 go_wp2_with fail
 go_ret
 exact ⟨rfl, rfl⟩
end Go.Proofs.YtoakccknimoogaaGreat
