/- Package box: Seal, Open, in one word. -/
import Derived.Test.YtdjbhbefghihcaaBox
set_option linter.unusedSimpArgs false
set_option linter.unusedVariables false
namespace Go.Esc
open Go Go.RowKit
theorem sealR_yes {key nonce : Bs} (plain more : Bs) (h : fineL key nonce = true) : sealR key nonce plain more = (sealL key nonce plain more, true) := by rw [sealR, if_pos h]
theorem sealR_no {key nonce : Bs} (plain more : Bs) (h : fineL key nonce = false) : sealR key nonce plain more = ([], false) := by rw [sealR, h]; rfl
theorem openR_short (key nonce : Bs) {b : Bs} (more : Bs) (h : b.length < 16) : openR key nonce b more = ([], false) := by
  rw [openR, if_neg]
  simp; omega
theorem openR_no {key nonce : Bs} (b more : Bs) (h : fineL key nonce = false) : openR key nonce b more = ([], false) := by rw [openR, h]; rfl
theorem openR_bad {key nonce : Bs} {b more : Bs} (h : boxTag key nonce (b.take (b.length - 16)) more ≠ b.drop (b.length - 16)) : openR key nonce b more = ([], false) := by
  rw [openR, if_neg]
  simp [h]
theorem openR_yes {key nonce : Bs} {b more : Bs} (hf : fineL key nonce = true) (hl : 16 ≤ b.length) (h : boxTag key nonce (b.take (b.length - 16)) more = b.drop (b.length - 16)) : openR key nonce b more = (streamL key 1 nonce (b.take (b.length - 16)), true) := by
  rw [openR, if_pos]
  simp [h, hf, hl]
end Go.Esc
namespace Go.Proofs.Ytdjbhbefghihcaa
open Go.RowKit Go.Esc
def rb (r : Bs × Bool) : Value := .tuple #[S r.1, .bool r.2]
theorem boxSeal (key nonce plain more : Bs) (hh : plain.length ≤ 90000) (hm : more.length ≤ 100000) (w : World) :
    Calls Try.prog 49 #[S key, S nonce, S plain, S more] w fun e w' => e = .returned (rb (sealR key nonce plain more)) ∧ Pu w w' := by
  cases h : fineL key nonce with
  | true => rw [sealR_yes _ _ h]; exact sealYes key nonce plain more h hh hm w
  | false =>
    rw [sealR_no _ _ h]
    refine (sealNo key nonce plain more h w).mono ?_
    rintro e w' ⟨rfl, rfl⟩; exact ⟨rfl, Pu.refl _⟩
theorem sameYes (a b : Bs) (h : a.length ≤ 1000000) (hab : a = b) (w : World) :
    Calls Try.prog 64 #[S a, S b] w fun e w' => e = .returned (.bool true) ∧ Pu w w' := by
  subst hab
  have := same a a h h w
  rwa [decide_eq_true rfl] at this
theorem sameNo (a b : Bs) (h : a.length ≤ 1000000) (h2 : b.length ≤ 1000000) (hab : a ≠ b) (w : World) :
    Calls Try.prog 64 #[S a, S b] w fun e w' => e = .returned (.bool false) ∧ Pu w w' := by
  have := same a b h h2 w
  rwa [decide_eq_false hab] at this
set_option maxRecDepth 100000 in
set_option maxHeartbeats 3200000 in
theorem boxOpen (key nonce b more : Bs) (hh : b.length ≤ 90000) (hm : more.length ≤ 100000) (w : World) :
    Calls Try.prog 51 #[S key, S nonce, S b, S more] w fun e w' => e = .returned (rb (openR key nonce b more)) ∧ Pu w w' := by
  by_cases h16 : b.length < 16
  · rw [openR_short key nonce more h16]
    have q1 : IntKind.i64.wrap ((b.length : Int) - 16) = b.length - 16 := by rw [IntKind.wrap_i64]; omega
    have q2 : (b.length : Int) - 16 < 0 := by omega
    go_enter Try.func51, Try.ntmps51
    go_wp2_with fail
    go_ret2
    exact ⟨rfl, (Pu.refl w).alloc _⟩
  obtain ⟨at', hat⟩ : ∃ n : Nat, n = b.length - 16 := ⟨_, rfl⟩
  have q2 : (b.length : Int) - 16 = at' := by omega
  have q2w : IntKind.i64.wrap (at' : Int) = at' := by rw [IntKind.wrap_i64]; omega
  have q3 : decide ((at' : Int) < 0) = false := by simp
  have q4 : (0 : Int) ≤ at' := by omega
  have q5 : (at' : Int) ≤ b.length := by omega
  have q6 : b.take b.length = b := List.take_length
  have hdl : (b.drop at').length = 16 := by simp; omega
  have hr0 := Row.newAt w w.heap.size #[.int .i32 0] 106 (xs := [.int .i32 0]) rfl rfl
  have hp0 : Pu w (w.alloc (.cells #[.int .i32 0] 106)) := Pu.alloc (Pu.refl w) _
  cases hf : fineL key nonce with
  | false =>
    rw [openR_no b more hf]
    have hT := fun w => boxTagF_no key nonce (b.take at') more hf w
    have hS := fun w => sameNo [] (b.drop at') (by simp) (by omega) (by intro h; rw [← h] at hdl; simp at hdl) w
    have HT := Lib.hid hT
    have HS := Lib.hid hS
    have HAT := Lib.hid hat
    have kem : (ByteArray.mk #[]) = bs [] := rfl
    have d0 : 0 ≤ (0 : Int) ∧ (0 : Int) < 1000000000 := by decide
    have c0 : (w.alloc (.cells #[.int .i32 0] 106)).cell? ⟨w.heap.size, 0, none⟩ = some (.int .i32 0) := hr0.cell 0 (by simp)
    have f0 : (w.alloc (.cells #[.int .i32 0] 106)).frozen? ⟨w.heap.size, 0, none⟩ = false := hr0.frozen 0 (by simp)
    clear hf hT hS hat
    go_enter Try.func51, Try.ntmps51
    go_wp2_with (first
      | (go_at_call 88; refine (HT.out _).mono ?_; rintro e w1 ⟨rfl, hw1⟩; subst w1)
      | (go_at_call 64; refine (HS.out _).mono ?_; rintro e w2 ⟨rfl, hp2⟩; have hr2 := (Row.newAt w w.heap.size #[.int .i32 1] 106 (xs := [.int .i32 1]) rfl rfl).pu hp2; have hb2 := Pu.trans (Pu.alloc (Pu.refl w) _) hp2)
      | (go_at_call 94; first
         | (with_reducible refine (addI32 ⟨w.heap.size, 0, none⟩ 0 _ d0 c0 f0).mono ?_
            rintro e w3 ⟨rfl, hw3⟩; subst w3)
         | (refine (addI32 ⟨w.heap.size, 0, none⟩ 1 _ (by decide) (hr2.cell 0 (by simp)) (hr2.frozen 0 (by simp))).mono ?_
            rintro e w4 ⟨rfl, hw4⟩; subst w4; have hr3 := hr2.set 0 (.int .i32 (1 + 1)); have hb3 := hb2.setCell (p := ⟨w.heap.size, 0, none⟩) (Nat.le_refl _) (.int .i32 (1 + 1)); clear hr2 hb2))
      | (go_at_call 95; refine (loadI32 ⟨w.heap.size, 0, none⟩ (1 + 1) _ (hr3.cell 0 (by simp))).mono ?_; rintro e w5 ⟨rfl, hw5⟩; subst w5))
    go_ret2
    exact ⟨rfl, hb3⟩
  | true =>
    have hT := fun w => boxTagF key nonce (b.take at') more hf (by simp; omega) hm w
    have htl := boxTag_length key nonce (b.take at') more
    by_cases htg : boxTag key nonce (b.take at') more = b.drop at'
    · rw [openR_yes hf (by omega) (by rw [← hat]; exact htg), ← hat]
      have hX := fun w => streamXor key nonce (b.take at') 1 hf (by omega) (by simp; omega) w
      rw [show ((1 : Nat) : Int) = 1 from rfl] at hX
      rw [htg] at hT
      have hS := fun w => sameYes (b.drop at') (b.drop at') (by omega) rfl w
      obtain ⟨t, ht⟩ : ∃ t, t = b.drop at' := ⟨_, rfl⟩
      have ht' : b.drop at' = t := ht.symm
      rw [ht'] at hT hS
      obtain ⟨c, hc⟩ : ∃ t, t = streamL key 1 nonce (b.take at') := ⟨_, rfl⟩
      rw [← hc] at hX ⊢
      have HT := Lib.hid hT
      have HS := Lib.hid hS
      have HX := Lib.hid hX
      have HAT := Lib.hid hat
      clear hf hT hS hat htg htl hX ht hc hdl
      go_enter Try.func51, Try.ntmps51
      go_wp2_with (first
        | (go_at_call 88; refine (HT.out _).mono ?_; rintro e w1 ⟨rfl, hp1⟩; have hr1 := hr0.pu hp1; have hb1 := Pu.trans hp0 hp1; clear hr0 hp0)
        | (go_at_call 64; refine (HS.out _).mono ?_; rintro e w2 ⟨rfl, hp2⟩; have hr2 := hr1.pu hp2; have hb2 := Pu.trans hb1 hp2; clear hr1 hb1)
        | (go_at_call 95; refine (loadI32 ⟨w.heap.size, 0, none⟩ 0 _ (hr2.cell 0 (by simp))).mono ?_; rintro e w5 ⟨rfl, hw5⟩; subst w5)
        | (go_at_call 87; refine (HX.out _).mono ?_; rintro e w6 ⟨rfl, hp6⟩))
      go_ret2
      exact ⟨rfl, Pu.trans hb2 hp6⟩
    · rw [openR_bad (by rw [← hat]; exact htg)]
      have hS := fun w => sameNo (boxTag key nonce (b.take at') more) (b.drop at') (by omega) (by omega) htg w
      obtain ⟨t, ht⟩ : ∃ t, t = boxTag key nonce (b.take at') more := ⟨_, rfl⟩
      rw [← ht] at hT hS
      have HT := Lib.hid hT
      have HS := Lib.hid hS
      have HAT := Lib.hid hat
      clear hf hT hS hat htg htl ht hdl
      go_enter Try.func51, Try.ntmps51
      go_wp2_with (first
        | (go_at_call 88; refine (HT.out _).mono ?_; rintro e w1 ⟨rfl, hp1⟩; have hr1 := hr0.pu hp1; have hb1 := Pu.trans hp0 hp1; clear hr0 hp0)
        | (go_at_call 64; refine (HS.out _).mono ?_; rintro e w2 ⟨rfl, hp2⟩; have hr2 := hr1.pu hp2; have hb2 := Pu.trans hb1 hp2; clear hr1 hb1)
        | (go_at_call 94; refine (addI32 ⟨w.heap.size, 0, none⟩ 0 _ (by decide) (hr2.cell 0 (by simp)) (hr2.frozen 0 (by simp))).mono ?_
           rintro e w3 ⟨rfl, hw3⟩; subst w3; have hr3 := hr2.set 0 (.int .i32 (0 + 1)); have hb3 := hb2.setCell (p := ⟨w.heap.size, 0, none⟩) (Nat.le_refl _) (.int .i32 (0 + 1)); clear hr2 hb2)
        | (go_at_call 95; refine (loadI32 ⟨w.heap.size, 0, none⟩ (0 + 1) _ (hr3.cell 0 (by simp))).mono ?_; rintro e w5 ⟨rfl, hw5⟩; subst w5))
      go_ret2
      exact ⟨rfl, hb3⟩
end Go.Proofs.Ytdjbhbefghihcaa
