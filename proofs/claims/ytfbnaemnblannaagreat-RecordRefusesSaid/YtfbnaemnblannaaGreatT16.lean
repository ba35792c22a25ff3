/- Package window. Package record: records are opened. Package record: a record is opened. -/
import Derived.Test.YtfbnaemnblannaaGreatT15
set_option linter.unusedSimpArgs false
set_option linter.unusedVariables false
set_option linter.unusedSimpArgs false
set_option linter.unusedVariables false
namespace Go.Proofs.YtfbnaemnblannaaGreat
open Go.RowKit Go.Esc
theorem zeroBool (w : World) : (zeroValue 4).run Tryz.prog w = .ok (.bool false) w := by kernel_rfl
theorem keyInt : KeyOf Tryz.prog 3 litI valI (fun n => n ≤ 1000000) := keyI Tryz.underlying3
theorem mapNe (ab : Nat) (w : World) : (binOp .eql 51 (.map (some ab)) (.map none)).run Tryz.prog w = .ok (.bool false) w := by kernel_rfl
theorem mapEq (w : World) : (binOp .eql 51 (.map none) (.map none)).run Tryz.prog w = .ok (.bool true) w := by kernel_rfl
/-- Those that were taken, as a map has them. -/
def tookV (f : Nat → Option Bs) : Nat → Option Value := fun k => (f k).map fun _ => .bool true
/-- A window: n is the least one that was not taken; f holds those above it. -/
structure WinAt (w : World) (wb : Nat) (am : Option Nat) (n : Nat) (f : Nat → Option Bs) (c : Nat) : Prop where
  row : Row w wb 53 [.int .i64 (n : Int), .map am]
  nil : am = none → (∀ k, f k = none) ∧ c = 0
  map : ∀ ab, am = some ab → MapAt Tryz.prog 3 litI w ab c (tookV f)
theorem WinAt.pu {w w' : World} {wb : Nat} {am : Option Nat} {n : Nat} {f : Nat → Option Bs} {c : Nat} (h : WinAt w wb am n f c) (hp : Pu w w') : WinAt w' wb am n f c := ⟨h.row.pu hp, h.nil, fun ab ha => (h.map ab ha).pu hp⟩
theorem WinAt.look {w : World} {wb : Nat} {am : Option Nat} {n : Nat} {f : Nat → Option Bs} {c : Nat} (h : WinAt w wb am n f c) (k : Nat) (hk : k ≤ 1000000) :
    (Instr.lookup 51 (.map am) (.int .i64 (k : Int)) false).run Tryz.prog w = .ok (.bool (f k).isSome) w := by
  cases ha : am with
  | none =>
    have h1 := nil_get keyInt Tryz.underlying51 (zeroBool w) k hk false
    rw [(h.nil ha).1 k]
    exact h1
  | some ab =>
    have h1 := (h.map ab ha).get keyInt Tryz.underlying51 (zeroBool w) k hk
    refine h1.trans ?_
    unfold tookV
    cases f k <;> rfl
set_option maxRecDepth 100000 in
theorem winNext {w : World} {wb : Nat} {am : Option Nat} {n : Nat} {f : Nat → Option Bs} {c : Nat} (h : WinAt w wb am n f c) :
    Calls Tryz.prog 45 #[.pointer (some ⟨wb, 0, none⟩)] w fun e w' => e = .returned (.int .i64 (n : Int)) ∧ w' = w := by
  have c0 := h.row.cell 0 (by simp)
  simp at c0
  go_enter Tryz.func45, Tryz.ntmps45
  go_wp2_with (go_at_call 28; refine (load64 _ _ _ c0).mono ?_; rintro e w1 ⟨rfl, rfl⟩)
  go_ret
  exact ⟨rfl, rfl⟩
set_option maxRecDepth 100000 in
theorem winMay {w : World} {wb : Nat} {am : Option Nat} {n : Nat} {f : Nat → Option Bs} {c : Nat} (h : WinAt w wb am n f c) (q : Nat) (hq : q ≤ 1000) (hn : n ≤ 1000) :
    Calls Tryz.prog 25 #[.pointer (some ⟨wb, 0, none⟩), .int .i64 (q : Int)] w fun e w' => e = .returned (.bool (decide (n ≤ q ∧ q < n + 64 ∧ (f q).isSome = false))) ∧ w' = w := by
  have hlk := h.look q (by omega)
  have H := Lib.hid h
  have c1 := h.row.cell 1 (by simp)
  simp at c1
  have hs : IntKind.i64.wrap ((q : Int) - n) = q - n := by rw [IntKind.wrap_i64]; omega
  clear h
  by_cases h1 : q < n
  · have q1 : ¬ (n : Int) ≤ q := by omega
    rw [decide_eq_false (by omega)]
    go_enter Tryz.func25, Tryz.ntmps25
    go_wp2_with (go_at_call 45; refine (winNext H.out).mono ?_; rintro e w1 ⟨rfl, rfl⟩)
    go_ret
    exact ⟨rfl, rfl⟩
  · have q1 : (n : Int) ≤ q := by omega
    by_cases h2 : q < n + 64
    · have q2 : (q : Int) - n < 64 := by omega
      have e2 : decide (n ≤ q ∧ q < n + 64 ∧ (f q).isSome = false) = (f q).isNone := by
        cases f q
        · simp; omega
        · simp
      rw [e2]
      clear e2
      go_enter Tryz.func25, Tryz.ntmps25
      go_wp2_with (go_at_call 45; refine (winNext H.out).mono ?_; rintro e w1 ⟨rfl, rfl⟩)
      go_ret
      exact ⟨rfl, rfl⟩
    · have q2 : ¬ (q : Int) - n < 64 := by omega
      rw [decide_eq_false (by omega)]
      go_enter Tryz.func25, Tryz.ntmps25
      go_wp2_with (go_at_call 45; refine (winNext H.out).mono ?_; rintro e w1 ⟨rfl, rfl⟩)
      go_ret
      exact ⟨rfl, rfl⟩
theorem tookV_upd (f : Nat → Option Bs) (q : Nat) (t : Bs) : upd (tookV f) q (some (.bool true)) = tookV (updF f q (some t)) := by
  funext k
  unfold upd tookV updF
  split <;> rfl
theorem tookV_cut (f : Nat → Option Bs) (n : Nat) : upd (tookV (cutF f n)) n none = tookV (cutF f (n+1)) := by
  funext k
  unfold upd tookV cutF
  by_cases h : k = n
  · rw [if_pos h, if_pos (by omega)]; rfl
  · rw [if_neg h]
    by_cases h2 : k < n
    · rw [if_pos h2, if_pos (by omega)]
    · rw [if_neg h2, if_neg (by omega)]
theorem cutF_low {f : Nat → Option Bs} {n : Nat} (h : ∀ k, k < n → f k = none) : cutF f n = f := by
  funext k
  unfold cutF
  split
  · next hk => rw [h k hk]
  · rfl
theorem updF_low {f : Nat → Option Bs} {n q : Nat} {t : Option Bs} (h : ∀ k, k < n → f k = none) (hq : n ≤ q) : ∀ k, k < n → updF f q t k = none := fun k hk => by
  unfold updF; rw [if_neg (by omega)]; exact h k hk
def winM (wb n : Nat) (w : World) : Nat := match w.cell? ⟨wb, 0, none⟩ with | some v => n - (intOf v).toNat | none => 0
theorem grown_cg {G : Nat → Prop} {w w' : World} {b : Nat} (h : w.grownBy w' (some b)) (hb : G b) : Cg G w w' := (Cg.refl G w).grown h hb
theorem WinAt.grown {w w' : World} {wb : Nat} {am : Option Nat} {n : Nat} {f : Nat → Option Bs} {c : Nat} (h : WinAt w wb am n f c) {b : Nat} (hp : w.grownBy w' (some b)) (h1 : wb ≠ b) (h2 : am ≠ some b) : WinAt w' wb am n f c :=
  ⟨h.row.grown hp (by simpa using h1), h.nil, fun ab ha => (h.map ab ha).other (hp.block ab (h.map ab ha).lt (by intro e; cases e; exact h2 ha))⟩
/-- A window behind one that was taken. -/
def TookR (w w' : World) (wb : Nat) (am : Option Nat) (n : Nat) (f : Nat → Option Bs) (c : Nat) : Prop :=
  Cg (fun g => g = wb ∨ am = some g) w w' ∧ ∃ ab, (am = some ab ∨ (w.heap.size ≤ ab ∧ ab < w'.heap.size)) ∧ WinAt w' wb (some ab) n f c
set_option maxRecDepth 100000 in
set_option maxHeartbeats 1600000 in
theorem winTake {w : World} {wb : Nat} {am : Option Nat} {n : Nat} {f : Nat → Option Bs} {c : Nat} (h : WinAt w wb am n f c) (q : Nat) (t : Bs) (out : List Bs) (hq1 : n ≤ q) (hq2 : q < n + 64) (hq3 : f q = none) (hn : n ≤ 500) (hc : c ≤ 100000)
    (hlow : ∀ k, k < n → f k = none) (hrun : IsRun (updF f q (some t)) n out) (hol : out.length ≤ 400) :
    Calls Tryz.prog 27 #[.pointer (some ⟨wb, 0, none⟩), .int .i64 (q : Int)] w fun e w' => e = .returned (.bool true) ∧ TookR w w' wb am (n + out.length) (cutF (updF f q (some t)) (n + out.length)) (c + 1 - out.length) := by
  have hmay := winMay h q (by omega) (by omega)
  rw [decide_eq_true ⟨hq1, hq2, by rw [hq3]; rfl⟩] at hmay
  have HM := Lib.hid hmay
  have hmm := @run_makeMap Tryz.prog
  have hne := mapNe
  have heq := mapEq
  have c1 := h.row.cell 1 (by simp)
  simp at c1
  have hr := h.row
  have hc9 : c < maxLen := by unfold maxLen; omega
  clear hmay
  cases am with
  | some ab =>
    have hmp := h.map ab rfl
    clear h
    go_enter Tryz.func27, Tryz.ntmps27
    go_wp2_with (first
      | (go_at_call 25; refine HM.out.mono ?_; rintro e w1 ⟨rfl, rfl⟩)
      | (at_mapUpdate; refine wpList_map_set _ rfl _ _ _ 51 rfl 4 keyInt Tryz.underlying51 ab c _ rfl hmp hc9 q (by omega) rfl (.bool true) rfl ?_; intro w5 hm5 hg5))
    have hr5 := hr.grown hg5 (by have := hmp.ne hr; simp; omega)
    have hc5 : Cg (fun g => g = wb ∨ some ab = some g) w1 w5 := grown_cg hg5 (.inr rfl)
    have hm5' : MapAt Tryz.prog 3 litI w5 ab (c + 1) (tookV (updF f q (some t))) := by
      have e1 : (tookV f q).isSome = false := by unfold tookV; rw [hq3]; rfl
      rw [e1] at hm5
      rw [← tookV_upd]; exact hm5
    have hw5 : WinAt w5 wb (some ab) (n + 0) (cutF (updF f q (some t)) (n + 0)) (c + 1 - 0) := ⟨hr5, fun h => (by cases h), fun ab' ha => by cases ha; have e9 : cutF (updF f q (some t)) n = updF f q (some t) := cutF_low (updF_low hlow hq1); simpa only [Nat.add_zero, Nat.sub_zero, e9] using hm5'⟩
    clear hm5 hm5' hr5
    have HRUN := Lib.hid hrun
    have cN : ∀ args w, (callFunc 45 args).run Tryz.prog w = .ok (.enter 45 args) w := fun args w => run_callFunc_body Tryz.func45 (by kernel_rfl) (by kernel_rfl) args w
    clear hrun hlow
    go_wp2_with fail
    (try dsimp only [Act.put])
    go_loopw [23] (fun _ wr => ∃ j : Nat, j ≤ out.length ∧ WinAt wr wb (some ab) (n + j) (cutF (updF f q (some t)) (n + j)) (c + 1 - j) ∧ Cg (fun g => g = wb ∨ some ab = some g) w1 wr) (fun _ wr => winM wb (n + out.length) wr)
    case atStart => exact ⟨0, Nat.zero_le _, hw5, hc5⟩
    case round =>
      clear hw5 hc5
      obtain ⟨j, hj, hwin, hcg⟩ := hrel
      have hcw : ∀ w', Pu wr w' → w'.cell? ⟨wb, 1, none⟩ = some (.map (some ab)) := fun w' hp => by
        have := (hwin.pu hp).row.cell 1 (by simp); simpa using this
      have hnx := fun w' (hp : Pu wr w') => winNext (hwin.pu hp)
      have hlk := fun w' (hp : Pu wr w') => (hwin.pu hp).look (n + j) (by omega)
      have e0 : cutF (updF f q (some t)) (n + j) (n + j) = updF f q (some t) (n + j) := by unfold cutF; rw [if_neg (by omega)]
      rw [e0] at hlk
      obtain ⟨N, hN⟩ : ∃ N, N = n + j := ⟨_, rfl⟩
      have HCW := Lib.hid hcw
      have HNX := Lib.hid hnx
      have HWIN := Lib.hid hwin
      by_cases hjl : j < out.length
      · have e1 : (updF f q (some t) (n + j)).isSome = true := by rw [HRUN.out.1 j hjl, List.getElem?_eq_getElem hjl]; rfl
        rw [e1] at hlk
        rw [← hN] at hlk HNX HWIN
        have HLK := Lib.hid hlk
        have HN := Lib.hid hN
        clear hcw hnx hlk hwin hN e0 e1
        go_wp2_with fail
        apply region_pu (Φs := (Is _ :: Is _ :: Is _ :: Is _ :: Is _ :: Is _ :: Is _ :: [])) (hm := by kernel_rfl) (hE := by kernel_rfl) (hD := by kernel_rfl) (hsize := by kernel_rfl)
        case hop =>
          refine ⟨?_, ?_, ?_, ?_, ?_, ?_, ?_, trivial⟩
          · intro a' w' hs hp he
            have e0 := hs 0 (by kernel_rfl)
            try simp [Is, Region.binds] at he
            exact op_val rfl (wanted_none rfl) (by first | (go_simp; done) | (go_simp; rfl) | (simp [execOp, Act.eval, go_sem, *]; done) | (simp [execOp, Act.eval, go_sem, *]; rfl)) rfl (Pu.refl _)
          · intro a' w' hs hp he
            try simp [Is, Region.binds] at he
            exact op_val rfl (wanted_none rfl) (by first | (go_simp; done) | (go_simp; rfl) | (simp [execOp, Act.eval, go_sem, *]; done) | (simp [execOp, Act.eval, go_sem, *]; rfl)) rfl (Pu.refl _)
          · intro a' w' hs hp he
            try simp [Is, Region.binds] at he
            exact op_val rfl (wanted_none rfl) (by first | (go_simp; done) | (go_simp; rfl) | (simp [execOp, Act.eval, go_sem, *]; done) | (simp [execOp, Act.eval, go_sem, *]; rfl)) rfl (Pu.refl _)
          · intro a' w' hs hp he
            try simp [Is, Region.binds] at he
            have hc := HCW.out _ hp; exact op_val rfl (wanted_none rfl) (by first | (go_simp; done) | (go_simp; rfl)) rfl (Pu.refl _)
          · intro a' w' hs hp he
            have e0 := hs 0 (by kernel_rfl)
            try simp [Is, Region.binds] at he
            exact op_val rfl (wanted_none rfl) (by first | (go_simp; done) | (go_simp; rfl) | (simp [execOp, Act.eval, go_sem, *]; done) | (simp [execOp, Act.eval, go_sem, *]; rfl)) rfl (Pu.refl _)
          · intro a' w' hs hp he
            try simp [Is, Region.binds] at he
            exact op_callV (HNX.out _ hp) rfl (wanted_none rfl) (by first | (go_simp; done) | (go_simp; rfl)) rfl
          · intro a' w' hs hp he
            try simp [Is, Region.binds] at he
            have hlk := HLK.out _ hp; exact op_val rfl (wanted_none rfl) (by first | (go_simp; done) | (go_simp; rfl)) rfl (Pu.refl _)
        case hend =>
          intro a' w' hdef hsz hs hp hall
          obtain ⟨r0, r1, r2, r3, r4, r5, r6, -⟩ := hall
          have hA := agree_done (agree_step (agree_step (agree_step (agree_step (agree_step (agree_step (agree_step (agree_init [23, 24, 25, 26, 27, 28, 29] hsz hs (by kernel_rfl)) r0) r1) r2) r3) r4) r5) r6)
          have ha := act_of hA hdef
          rw [ha]
          clear ha hA hs hsz hdef r0 r1 r2 r3 r4 r5 r6 
          (try simp only [List.setIfInBounds_toArray])
          (try dsimp only [List.set_cons_zero, List.set_cons_succ])
          (try simp only [Exit.then])
          rename World => wa
          have HP6 := Lib.hid hp
          clear hp
          go_wp2_with fail
          have hcw' : ∀ w'', Pu wa w'' → w''.cell? ⟨wb, 1, none⟩ = some (.map (some ab)) := fun w'' hp => HCW.out w'' (HP6.out.trans hp)
          have hnx' := fun w'' (hp : Pu wa w'') => HNX.out w'' (HP6.out.trans hp)
          have HCW2 := Lib.hid hcw'
          have HNX2 := Lib.hid hnx'
          have hmpw := (HWIN.out.pu HP6.out).map ab rfl
          have hrww := (HWIN.out.pu HP6.out).row
          have hcc : (if (tookV (cutF (updF f q (some t)) N) N).isSome then c + 1 - j - 1 else c + 1 - j) = c + 1 - (j + 1) := by
            have e0 : cutF (updF f q (some t)) N N = updF f q (some t) N := by unfold cutF; rw [if_neg (by omega)]
            have e1 : (updF f q (some t) N).isSome = true := by rw [HN.out, HRUN.out.1 j hjl, List.getElem?_eq_getElem hjl]; rfl
            rw [if_pos (by unfold tookV; rw [e0]; cases h9 : updF f q (some t) N with | none => rw [h9] at e1; cases e1 | some x => rfl)]
            omega
          have HCC := Lib.hid hcc
          have HMW := Lib.hid hmpw
          have HRW := Lib.hid hrww
          clear hcw' hnx' hmpw hrww hcc
          apply region_last (n := 6) (hn := by kernel_rfl) (hlast := rfl) (hU := by kernel_rfl) (Φs := (Is _ :: Is _ :: Is _ :: Is _ :: Is _ :: Is _ :: [])) (hm := by kernel_rfl) (hE := by kernel_rfl) (hD := by kernel_rfl) (hsize := by kernel_rfl)
          case hop =>
            refine ⟨?_, ?_, ?_, ?_, ?_, ?_, trivial⟩
            · intro a' w' hs hp he
              have e0 := hs 0 (by kernel_rfl)
              try simp [Is, Region.binds] at he
              exact op_val rfl (wanted_none rfl) (by first | (go_simp; done) | (go_simp; rfl) | (simp [execOp, Act.eval, go_sem, *]; done) | (simp [execOp, Act.eval, go_sem, *]; rfl)) rfl (Pu.refl _)
            · intro a' w' hs hp he
              try simp [Is, Region.binds] at he
              exact op_val rfl (wanted_none rfl) (by first | (go_simp; done) | (go_simp; rfl) | (simp [execOp, Act.eval, go_sem, *]; done) | (simp [execOp, Act.eval, go_sem, *]; rfl)) rfl (Pu.refl _)
            · intro a' w' hs hp he
              try simp [Is, Region.binds] at he
              exact op_val rfl (wanted_none rfl) (by first | (go_simp; done) | (go_simp; rfl) | (simp [execOp, Act.eval, go_sem, *]; done) | (simp [execOp, Act.eval, go_sem, *]; rfl)) rfl (Pu.refl _)
            · intro a' w' hs hp he
              try simp [Is, Region.binds] at he
              have hc := HCW2.out _ hp; exact op_val rfl (wanted_none rfl) (by first | (go_simp; done) | (go_simp; rfl)) rfl (Pu.refl _)
            · intro a' w' hs hp he
              have e0 := hs 0 (by kernel_rfl)
              try simp [Is, Region.binds] at he
              exact op_val rfl (wanted_none rfl) (by first | (go_simp; done) | (go_simp; rfl) | (simp [execOp, Act.eval, go_sem, *]; done) | (simp [execOp, Act.eval, go_sem, *]; rfl)) rfl (Pu.refl _)
            · intro a' w' hs hp he
              try simp [Is, Region.binds] at he
              exact op_callV (HNX2.out _ hp) rfl (wanted_none rfl) (by first | (go_simp; done) | (go_simp; rfl)) rfl
          case hend =>
            intro a' w' hdef hsz hs hp hall
            obtain ⟨r0, r1, r2, r3, r4, r5, -⟩ := hall
            have hA := agree_done (agree_step (agree_step (agree_step (agree_step (agree_step (agree_step (agree_init [30, 31, 32, 33, 34, 35] hsz hs (by kernel_rfl)) r0) r1) r2) r3) r4) r5)
            have ha := act_of hA hdef
            rw [ha]
            clear ha hA hs hsz hdef r0 r1 r2 r3 r4 r5 
            (try simp only [List.setIfInBounds_toArray])
            (try dsimp only [List.set_cons_zero, List.set_cons_succ])
            (try simp only [Exit.then])
            obtain ⟨w8, hrun8, hm8, hg8⟩ := (HMW.out.pu hp).del keyInt Tryz.underlying51 N (by have := HN.out; omega) 0; change (Builtin.delete_ #[51, 3] 0 #[.map (some ab), .int .i64 (N : Int)]).run Tryz.prog w' = .ok (.tuple #[]) w8 at hrun8; refine op_run rfl (wanted_none rfl) (by first | (go_simp; done) | (go_simp; exact ⟨rfl, rfl⟩) | (go_simp; rfl)) ?_
            (try simp only [Exit.inBlock, Exit.then])
            rw [HCC.out, tookV_cut] at hm8
            have hn8 := (HMW.out.pu hp).ne (HRW.out.pu hp)
            have hr8 := (HRW.out.pu hp).grown hg8 (by simp; omega)
            have c08 := hr8.cell 0 (by simp)
            have f08 := hr8.frozen 0 (by simp)
            simp at c08
            (try dsimp only [Act.put])
            go_wp2_with (go_at_call 18; refine (add64 _ _ _ (by have := HN.out; omega) c08 f08).mono ?_; rintro e w9 ⟨rfl, rfl⟩)
            go_roundw
            case rel =>
              have hr9 := hr8.set 0 (.int .i64 ((N : Int) + 1))
              refine ⟨j + 1, by omega, ⟨?_, fun h => (by cases h), fun ab' ha => ?_⟩, (((hcg.pu HP6.out).pu hp).grown' hg8 (fun q' e' => .inl (.inr e'))).andThen (H := fun g => g = wb ∨ some ab = some g) (Cg.ofBut (But.set _ _ _) (.inl rfl)) (fun g hg => .inl hg)⟩
              · have e9 : ((n + (j + 1) : Nat) : Int) = (N : Int) + 1 := by have := HN.out; omega
                rw [e9]; simpa using hr9
              · cases ha
                have e9 : n + (j + 1) = N + 1 := by have := HN.out; omega
                rw [e9]
                exact hm8.other (Below.heap_setCell _ _ _ _ hn8)
            case measure =>
              have cw0 := HWIN.out.row.cell 0 (by simp)
              simp at cw0
              have cz := (hr8.set 0 (.int .i64 ((N : Int) + 1))).cell 0 (by simp)
              simp at cz
              have := HN.out
              simp only [winM, cw0, cz, intOf]
              omega
      · obtain rfl : j = out.length := by omega
        have e1 : (updF f q (some t) (n + out.length)).isSome = false := by rw [HRUN.out.2]; rfl
        rw [e1] at hlk
        rw [← hN] at hlk HNX
        have HLK := Lib.hid hlk
        have HN := Lib.hid hN
        clear hcw hnx hlk hwin hN e0 e1
        go_wp2_with fail
        apply region_pu (Φs := (Is _ :: Is _ :: Is _ :: Is _ :: Is _ :: Is _ :: Is _ :: [])) (hm := by kernel_rfl) (hE := by kernel_rfl) (hD := by kernel_rfl) (hsize := by kernel_rfl)
        case hop =>
          refine ⟨?_, ?_, ?_, ?_, ?_, ?_, ?_, trivial⟩
          · intro a' w' hs hp he
            have e0 := hs 0 (by kernel_rfl)
            try simp [Is, Region.binds] at he
            exact op_val rfl (wanted_none rfl) (by first | (go_simp; done) | (go_simp; rfl) | (simp [execOp, Act.eval, go_sem, *]; done) | (simp [execOp, Act.eval, go_sem, *]; rfl)) rfl (Pu.refl _)
          · intro a' w' hs hp he
            try simp [Is, Region.binds] at he
            exact op_val rfl (wanted_none rfl) (by first | (go_simp; done) | (go_simp; rfl) | (simp [execOp, Act.eval, go_sem, *]; done) | (simp [execOp, Act.eval, go_sem, *]; rfl)) rfl (Pu.refl _)
          · intro a' w' hs hp he
            try simp [Is, Region.binds] at he
            exact op_val rfl (wanted_none rfl) (by first | (go_simp; done) | (go_simp; rfl) | (simp [execOp, Act.eval, go_sem, *]; done) | (simp [execOp, Act.eval, go_sem, *]; rfl)) rfl (Pu.refl _)
          · intro a' w' hs hp he
            try simp [Is, Region.binds] at he
            have hc := HCW.out _ hp; exact op_val rfl (wanted_none rfl) (by first | (go_simp; done) | (go_simp; rfl)) rfl (Pu.refl _)
          · intro a' w' hs hp he
            have e0 := hs 0 (by kernel_rfl)
            try simp [Is, Region.binds] at he
            exact op_val rfl (wanted_none rfl) (by first | (go_simp; done) | (go_simp; rfl) | (simp [execOp, Act.eval, go_sem, *]; done) | (simp [execOp, Act.eval, go_sem, *]; rfl)) rfl (Pu.refl _)
          · intro a' w' hs hp he
            try simp [Is, Region.binds] at he
            exact op_callV (HNX.out _ hp) rfl (wanted_none rfl) (by first | (go_simp; done) | (go_simp; rfl)) rfl
          · intro a' w' hs hp he
            try simp [Is, Region.binds] at he
            have hlk := HLK.out _ hp; exact op_val rfl (wanted_none rfl) (by first | (go_simp; done) | (go_simp; rfl)) rfl (Pu.refl _)
        case hend =>
          intro a' w' hdef hsz hs hp hall
          obtain ⟨r0, r1, r2, r3, r4, r5, r6, -⟩ := hall
          have hA := agree_done (agree_step (agree_step (agree_step (agree_step (agree_step (agree_step (agree_step (agree_init [23, 24, 25, 26, 27, 28, 29] hsz hs (by kernel_rfl)) r0) r1) r2) r3) r4) r5) r6)
          have ha := act_of hA hdef
          rw [ha]
          clear ha hA hs hsz hdef r0 r1 r2 r3 r4 r5 r6 
          (try simp only [List.setIfInBounds_toArray])
          (try dsimp only [List.set_cons_zero, List.set_cons_succ])
          (try simp only [Exit.then])
          go_wp2_with fail
          go_ret
          exact ⟨rfl, hcg.pu hp, ab, .inl rfl, HWIN.out.pu hp⟩
  | none =>
    obtain ⟨hf, hc0⟩ := h.nil rfl
    have hff : f = fun _ => none := funext hf
    have hb := hr.lt
    have hmp : MapAt Tryz.prog 3 litI ((w.setCell ⟨wb, 1, none⟩ (.map (some w.heap.size))).alloc (.map #[] 0)) w.heap.size c (tookV f) := by
      rw [hc0]
      have e9 : tookV f = fun _ => none := by funext k; unfold tookV; rw [hf k]; rfl
      rw [e9]
      have h9 := MapAt.made (P := Tryz.prog) (kt := 3) (lit := litI) (w.setCell ⟨wb, 1, none⟩ (.map (some w.heap.size)))
      simpa using h9
    have hcA := (hr.alloc (.map #[] 0)).cell 1 (by simp)
    have hfA := (hr.alloc (.map #[] 0)).frozen 1 (by simp)
    simp at hcA
    have hrA := (hr.set 1 (.map (some w.heap.size))).alloc (.map #[] 0)
    have hcg0 : Cg (fun g => g = wb ∨ none = some g) w ((w.setCell ⟨wb, 1, none⟩ (.map (some w.heap.size))).alloc (.map #[] 0)) := (Cg.ofBut (But.set _ _ _) (.inl rfl)).pu ((Pu.refl _).alloc _)
    have hsz0 : ((w.setCell ⟨wb, 1, none⟩ (.map (some w.heap.size))).alloc (.map #[] 0)).heap.size = w.heap.size + 1 := by simp
    clear h
    go_enter Tryz.func27, Tryz.ntmps27
    go_wp2_with (first
      | (go_at_call 25; refine HM.out.mono ?_; rintro e w1 ⟨rfl, rfl⟩)
      | (at_mapUpdate; refine wpList_map_set _ rfl _ _ _ 51 rfl 4 keyInt Tryz.underlying51 w1.heap.size c _ rfl hmp hc9 q (by omega) rfl (.bool true) rfl ?_; intro w5 hm5 hg5))
    have hr5 := hrA.grown hg5 (by simp; omega)
    simp at hr5
    obtain ⟨ab, hab⟩ : ∃ ab, ab = w1.heap.size := ⟨_, rfl⟩
    have hsz5 := hg5.size
    rw [hsz0] at hsz5
    have hab5 : w1.heap.size ≤ ab ∧ ab < w5.heap.size := by omega
    have hc5 : Cg (fun g => g = wb ∨ none = some g) w1 w5 := hcg0.grown' hg5 (fun q' e' => .inr (by cases e'; exact Nat.le_refl _))
    rw [← hab] at hm5 hr5 hg5 ⊢
    clear hcA hfA hrA hcg0 hsz0 hmp hsz5 hab c1
    clear hc0 hf hff
    have hm5' : MapAt Tryz.prog 3 litI w5 ab (c + 1) (tookV (updF f q (some t))) := by
      have e1 : (tookV f q).isSome = false := by unfold tookV; rw [hq3]; rfl
      rw [e1] at hm5
      rw [← tookV_upd]; exact hm5
    have hw5 : WinAt w5 wb (some ab) (n + 0) (cutF (updF f q (some t)) (n + 0)) (c + 1 - 0) := ⟨hr5, fun h => (by cases h), fun ab' ha => by cases ha; have e9 : cutF (updF f q (some t)) n = updF f q (some t) := cutF_low (updF_low hlow hq1); simpa only [Nat.add_zero, Nat.sub_zero, e9] using hm5'⟩
    clear hm5 hm5' hr5
    have HRUN := Lib.hid hrun
    have cN : ∀ args w, (callFunc 45 args).run Tryz.prog w = .ok (.enter 45 args) w := fun args w => run_callFunc_body Tryz.func45 (by kernel_rfl) (by kernel_rfl) args w
    clear hrun hlow
    go_wp2_with fail
    (try dsimp only [Act.put])
    go_loopw [23] (fun _ wr => ∃ j : Nat, j ≤ out.length ∧ WinAt wr wb (some ab) (n + j) (cutF (updF f q (some t)) (n + j)) (c + 1 - j) ∧ Cg (fun g => g = wb ∨ none = some g) w1 wr) (fun _ wr => winM wb (n + out.length) wr)
    case atStart => exact ⟨0, Nat.zero_le _, hw5, hc5⟩
    case round =>
      clear hw5 hc5
      obtain ⟨j, hj, hwin, hcg⟩ := hrel
      have hcw : ∀ w', Pu wr w' → w'.cell? ⟨wb, 1, none⟩ = some (.map (some ab)) := fun w' hp => by
        have := (hwin.pu hp).row.cell 1 (by simp); simpa using this
      have hnx := fun w' (hp : Pu wr w') => winNext (hwin.pu hp)
      have hlk := fun w' (hp : Pu wr w') => (hwin.pu hp).look (n + j) (by omega)
      have e0 : cutF (updF f q (some t)) (n + j) (n + j) = updF f q (some t) (n + j) := by unfold cutF; rw [if_neg (by omega)]
      rw [e0] at hlk
      obtain ⟨N, hN⟩ : ∃ N, N = n + j := ⟨_, rfl⟩
      have HCW := Lib.hid hcw
      have HNX := Lib.hid hnx
      have HWIN := Lib.hid hwin
      by_cases hjl : j < out.length
      · have e1 : (updF f q (some t) (n + j)).isSome = true := by rw [HRUN.out.1 j hjl, List.getElem?_eq_getElem hjl]; rfl
        rw [e1] at hlk
        rw [← hN] at hlk HNX HWIN
        have HLK := Lib.hid hlk
        have HN := Lib.hid hN
        clear hcw hnx hlk hwin hN e0 e1
        go_wp2_with fail
        apply region_pu (Φs := (Is _ :: Is _ :: Is _ :: Is _ :: Is _ :: Is _ :: Is _ :: [])) (hm := by kernel_rfl) (hE := by kernel_rfl) (hD := by kernel_rfl) (hsize := by kernel_rfl)
        case hop =>
          refine ⟨?_, ?_, ?_, ?_, ?_, ?_, ?_, trivial⟩
          · intro a' w' hs hp he
            have e0 := hs 0 (by kernel_rfl)
            try simp [Is, Region.binds] at he
            exact op_val rfl (wanted_none rfl) (by first | (go_simp; done) | (go_simp; rfl) | (simp [execOp, Act.eval, go_sem, *]; done) | (simp [execOp, Act.eval, go_sem, *]; rfl)) rfl (Pu.refl _)
          · intro a' w' hs hp he
            try simp [Is, Region.binds] at he
            exact op_val rfl (wanted_none rfl) (by first | (go_simp; done) | (go_simp; rfl) | (simp [execOp, Act.eval, go_sem, *]; done) | (simp [execOp, Act.eval, go_sem, *]; rfl)) rfl (Pu.refl _)
          · intro a' w' hs hp he
            try simp [Is, Region.binds] at he
            exact op_val rfl (wanted_none rfl) (by first | (go_simp; done) | (go_simp; rfl) | (simp [execOp, Act.eval, go_sem, *]; done) | (simp [execOp, Act.eval, go_sem, *]; rfl)) rfl (Pu.refl _)
          · intro a' w' hs hp he
            try simp [Is, Region.binds] at he
            have hc := HCW.out _ hp; exact op_val rfl (wanted_none rfl) (by first | (go_simp; done) | (go_simp; rfl)) rfl (Pu.refl _)
          · intro a' w' hs hp he
            have e0 := hs 0 (by kernel_rfl)
            try simp [Is, Region.binds] at he
            exact op_val rfl (wanted_none rfl) (by first | (go_simp; done) | (go_simp; rfl) | (simp [execOp, Act.eval, go_sem, *]; done) | (simp [execOp, Act.eval, go_sem, *]; rfl)) rfl (Pu.refl _)
          · intro a' w' hs hp he
            try simp [Is, Region.binds] at he
            exact op_callV (HNX.out _ hp) rfl (wanted_none rfl) (by first | (go_simp; done) | (go_simp; rfl)) rfl
          · intro a' w' hs hp he
            try simp [Is, Region.binds] at he
            have hlk := HLK.out _ hp; exact op_val rfl (wanted_none rfl) (by first | (go_simp; done) | (go_simp; rfl)) rfl (Pu.refl _)
        case hend =>
          intro a' w' hdef hsz hs hp hall
          obtain ⟨r0, r1, r2, r3, r4, r5, r6, -⟩ := hall
          have hA := agree_done (agree_step (agree_step (agree_step (agree_step (agree_step (agree_step (agree_step (agree_init [23, 24, 25, 26, 27, 28, 29] hsz hs (by kernel_rfl)) r0) r1) r2) r3) r4) r5) r6)
          have ha := act_of hA hdef
          rw [ha]
          clear ha hA hs hsz hdef r0 r1 r2 r3 r4 r5 r6 
          (try simp only [List.setIfInBounds_toArray])
          (try dsimp only [List.set_cons_zero, List.set_cons_succ])
          (try simp only [Exit.then])
          rename World => wa
          have HP6 := Lib.hid hp
          clear hp
          go_wp2_with fail
          have hcw' : ∀ w'', Pu wa w'' → w''.cell? ⟨wb, 1, none⟩ = some (.map (some ab)) := fun w'' hp => HCW.out w'' (HP6.out.trans hp)
          have hnx' := fun w'' (hp : Pu wa w'') => HNX.out w'' (HP6.out.trans hp)
          have HCW2 := Lib.hid hcw'
          have HNX2 := Lib.hid hnx'
          have hmpw := (HWIN.out.pu HP6.out).map ab rfl
          have hrww := (HWIN.out.pu HP6.out).row
          have hcc : (if (tookV (cutF (updF f q (some t)) N) N).isSome then c + 1 - j - 1 else c + 1 - j) = c + 1 - (j + 1) := by
            have e0 : cutF (updF f q (some t)) N N = updF f q (some t) N := by unfold cutF; rw [if_neg (by omega)]
            have e1 : (updF f q (some t) N).isSome = true := by rw [HN.out, HRUN.out.1 j hjl, List.getElem?_eq_getElem hjl]; rfl
            rw [if_pos (by unfold tookV; rw [e0]; cases h9 : updF f q (some t) N with | none => rw [h9] at e1; cases e1 | some x => rfl)]
            omega
          have HCC := Lib.hid hcc
          have HMW := Lib.hid hmpw
          have HRW := Lib.hid hrww
          clear hcw' hnx' hmpw hrww hcc
          apply region_last (n := 6) (hn := by kernel_rfl) (hlast := rfl) (hU := by kernel_rfl) (Φs := (Is _ :: Is _ :: Is _ :: Is _ :: Is _ :: Is _ :: [])) (hm := by kernel_rfl) (hE := by kernel_rfl) (hD := by kernel_rfl) (hsize := by kernel_rfl)
          case hop =>
            refine ⟨?_, ?_, ?_, ?_, ?_, ?_, trivial⟩
            · intro a' w' hs hp he
              have e0 := hs 0 (by kernel_rfl)
              try simp [Is, Region.binds] at he
              exact op_val rfl (wanted_none rfl) (by first | (go_simp; done) | (go_simp; rfl) | (simp [execOp, Act.eval, go_sem, *]; done) | (simp [execOp, Act.eval, go_sem, *]; rfl)) rfl (Pu.refl _)
            · intro a' w' hs hp he
              try simp [Is, Region.binds] at he
              exact op_val rfl (wanted_none rfl) (by first | (go_simp; done) | (go_simp; rfl) | (simp [execOp, Act.eval, go_sem, *]; done) | (simp [execOp, Act.eval, go_sem, *]; rfl)) rfl (Pu.refl _)
            · intro a' w' hs hp he
              try simp [Is, Region.binds] at he
              exact op_val rfl (wanted_none rfl) (by first | (go_simp; done) | (go_simp; rfl) | (simp [execOp, Act.eval, go_sem, *]; done) | (simp [execOp, Act.eval, go_sem, *]; rfl)) rfl (Pu.refl _)
            · intro a' w' hs hp he
              try simp [Is, Region.binds] at he
              have hc := HCW2.out _ hp; exact op_val rfl (wanted_none rfl) (by first | (go_simp; done) | (go_simp; rfl)) rfl (Pu.refl _)
            · intro a' w' hs hp he
              have e0 := hs 0 (by kernel_rfl)
              try simp [Is, Region.binds] at he
              exact op_val rfl (wanted_none rfl) (by first | (go_simp; done) | (go_simp; rfl) | (simp [execOp, Act.eval, go_sem, *]; done) | (simp [execOp, Act.eval, go_sem, *]; rfl)) rfl (Pu.refl _)
            · intro a' w' hs hp he
              try simp [Is, Region.binds] at he
              exact op_callV (HNX2.out _ hp) rfl (wanted_none rfl) (by first | (go_simp; done) | (go_simp; rfl)) rfl
          case hend =>
            intro a' w' hdef hsz hs hp hall
            obtain ⟨r0, r1, r2, r3, r4, r5, -⟩ := hall
            have hA := agree_done (agree_step (agree_step (agree_step (agree_step (agree_step (agree_step (agree_init [30, 31, 32, 33, 34, 35] hsz hs (by kernel_rfl)) r0) r1) r2) r3) r4) r5)
            have ha := act_of hA hdef
            rw [ha]
            clear ha hA hs hsz hdef r0 r1 r2 r3 r4 r5 
            (try simp only [List.setIfInBounds_toArray])
            (try dsimp only [List.set_cons_zero, List.set_cons_succ])
            (try simp only [Exit.then])
            obtain ⟨w8, hrun8, hm8, hg8⟩ := (HMW.out.pu hp).del keyInt Tryz.underlying51 N (by have := HN.out; omega) 0; change (Builtin.delete_ #[51, 3] 0 #[.map (some ab), .int .i64 (N : Int)]).run Tryz.prog w' = .ok (.tuple #[]) w8 at hrun8; refine op_run rfl (wanted_none rfl) (by first | (go_simp; done) | (go_simp; exact ⟨rfl, rfl⟩) | (go_simp; rfl)) ?_
            (try simp only [Exit.inBlock, Exit.then])
            rw [HCC.out, tookV_cut] at hm8
            have hn8 := (HMW.out.pu hp).ne (HRW.out.pu hp)
            have hr8 := (HRW.out.pu hp).grown hg8 (by simp; omega)
            have c08 := hr8.cell 0 (by simp)
            have f08 := hr8.frozen 0 (by simp)
            simp at c08
            (try dsimp only [Act.put])
            go_wp2_with (go_at_call 18; refine (add64 _ _ _ (by have := HN.out; omega) c08 f08).mono ?_; rintro e w9 ⟨rfl, rfl⟩)
            go_roundw
            case rel =>
              have hr9 := hr8.set 0 (.int .i64 ((N : Int) + 1))
              refine ⟨j + 1, by omega, ⟨?_, fun h => (by cases h), fun ab' ha => ?_⟩, (((hcg.pu HP6.out).pu hp).grown' hg8 (fun q' e' => .inr (by cases e'; exact hab5.1))).andThen (H := fun g => g = wb ∨ (none : Option Nat) = some g) (Cg.ofBut (But.set _ _ _) (.inl rfl)) (fun g hg => .inl hg)⟩
              · have e9 : ((n + (j + 1) : Nat) : Int) = (N : Int) + 1 := by have := HN.out; omega
                rw [e9]; simpa using hr9
              · cases ha
                have e9 : n + (j + 1) = N + 1 := by have := HN.out; omega
                rw [e9]
                exact hm8.other (Below.heap_setCell _ _ _ _ hn8)
            case measure =>
              have cw0 := HWIN.out.row.cell 0 (by simp)
              simp at cw0
              have cz := (hr8.set 0 (.int .i64 ((N : Int) + 1))).cell 0 (by simp)
              simp at cz
              have := HN.out
              simp only [winM, cw0, cz, intOf]
              omega
      · obtain rfl : j = out.length := by omega
        have e1 : (updF f q (some t) (n + out.length)).isSome = false := by rw [HRUN.out.2]; rfl
        rw [e1] at hlk
        rw [← hN] at hlk HNX
        have HLK := Lib.hid hlk
        have HN := Lib.hid hN
        clear hcw hnx hlk hwin hN e0 e1
        go_wp2_with fail
        apply region_pu (Φs := (Is _ :: Is _ :: Is _ :: Is _ :: Is _ :: Is _ :: Is _ :: [])) (hm := by kernel_rfl) (hE := by kernel_rfl) (hD := by kernel_rfl) (hsize := by kernel_rfl)
        case hop =>
          refine ⟨?_, ?_, ?_, ?_, ?_, ?_, ?_, trivial⟩
          · intro a' w' hs hp he
            have e0 := hs 0 (by kernel_rfl)
            try simp [Is, Region.binds] at he
            exact op_val rfl (wanted_none rfl) (by first | (go_simp; done) | (go_simp; rfl) | (simp [execOp, Act.eval, go_sem, *]; done) | (simp [execOp, Act.eval, go_sem, *]; rfl)) rfl (Pu.refl _)
          · intro a' w' hs hp he
            try simp [Is, Region.binds] at he
            exact op_val rfl (wanted_none rfl) (by first | (go_simp; done) | (go_simp; rfl) | (simp [execOp, Act.eval, go_sem, *]; done) | (simp [execOp, Act.eval, go_sem, *]; rfl)) rfl (Pu.refl _)
          · intro a' w' hs hp he
            try simp [Is, Region.binds] at he
            exact op_val rfl (wanted_none rfl) (by first | (go_simp; done) | (go_simp; rfl) | (simp [execOp, Act.eval, go_sem, *]; done) | (simp [execOp, Act.eval, go_sem, *]; rfl)) rfl (Pu.refl _)
          · intro a' w' hs hp he
            try simp [Is, Region.binds] at he
            have hc := HCW.out _ hp; exact op_val rfl (wanted_none rfl) (by first | (go_simp; done) | (go_simp; rfl)) rfl (Pu.refl _)
          · intro a' w' hs hp he
            have e0 := hs 0 (by kernel_rfl)
            try simp [Is, Region.binds] at he
            exact op_val rfl (wanted_none rfl) (by first | (go_simp; done) | (go_simp; rfl) | (simp [execOp, Act.eval, go_sem, *]; done) | (simp [execOp, Act.eval, go_sem, *]; rfl)) rfl (Pu.refl _)
          · intro a' w' hs hp he
            try simp [Is, Region.binds] at he
            exact op_callV (HNX.out _ hp) rfl (wanted_none rfl) (by first | (go_simp; done) | (go_simp; rfl)) rfl
          · intro a' w' hs hp he
            try simp [Is, Region.binds] at he
            have hlk := HLK.out _ hp; exact op_val rfl (wanted_none rfl) (by first | (go_simp; done) | (go_simp; rfl)) rfl (Pu.refl _)
        case hend =>
          intro a' w' hdef hsz hs hp hall
          obtain ⟨r0, r1, r2, r3, r4, r5, r6, -⟩ := hall
          have hA := agree_done (agree_step (agree_step (agree_step (agree_step (agree_step (agree_step (agree_step (agree_init [23, 24, 25, 26, 27, 28, 29] hsz hs (by kernel_rfl)) r0) r1) r2) r3) r4) r5) r6)
          have ha := act_of hA hdef
          rw [ha]
          clear ha hA hs hsz hdef r0 r1 r2 r3 r4 r5 r6 
          (try simp only [List.setIfInBounds_toArray])
          (try dsimp only [List.set_cons_zero, List.set_cons_succ])
          (try simp only [Exit.then])
          go_wp2_with fail
          go_ret
          exact ⟨rfl, hcg.pu hp, ab, .inr ⟨hab5.1, ((HWIN.out.pu hp).map ab rfl).lt⟩, HWIN.out.pu hp⟩
end Go.Proofs.YtfbnaemnblannaaGreat
set_option linter.unusedSimpArgs false
set_option linter.unusedVariables false
namespace Go.Proofs.YtfbnaemnblannaaGreat
open Go.RowKit Go.Esc
/-- The texts that wait, as a map has them. -/
def textV (f : Nat → Option Bs) : Nat → Option Value := fun k => (f k).map S
theorem zeroStr (w : World) : (zeroValue 9).run Tryz.prog w = .ok (.string ⟨#[]⟩) w := by kernel_rfl
/-- The parts of an In. -/
structure InP (G : Nat → Prop) (w : World) (ib tb mb wb lb : Nat) (am : Option Nat) (key : Bs) (m : Nat) (s : InS) : Prop where
  row : Row w ib 56 [.pointer (some ⟨tb, 0, none⟩), .pointer (some ⟨wb, 0, none⟩), .int .i64 (s.n : Int), .map (some lb)]
  turns : Turns G w tb mb key m
  win : WinAt w wb am s.n s.f s.c
  l : MapAt Tryz.prog 3 litI w lb s.c (textV s.f)
  gt : G tb
  gm : G mb
  gw : G wb
  gl : G lb
  gi : G ib
  ga : ∀ ab, am = some ab → G ab
  nml : mb ≠ lb
  nma : am ≠ some mb
  nla : am ≠ some lb
  dom : ∀ g, G g → g < w.heap.size
  ok : s.Ok
  c : s.c ≤ m
/-- An In: what was told, what waits; m: how often one was opened at most. -/
def InAt (G : Nat → Prop) (w : World) (ib : Nat) (key : Bs) (m : Nat) (s : InS) : Prop := ∃ tb mb wb lb am, InP G w ib tb mb wb lb am key m s
theorem WinAt.cg {H : Nat → Prop} {w w' : World} {wb : Nat} {am : Option Nat} {n : Nat} {f : Nat → Option Bs} {c : Nat} (h : WinAt w wb am n f c) (hp : Cg H w w') (h1 : ¬ H wb) (h2 : ∀ ab, am = some ab → ¬ H ab) : WinAt w' wb am n f c :=
  ⟨hp.row h.row h1, h.nil, fun ab ha => (h.map ab ha).other (hp.block ab (h.map ab ha).lt (h2 ab ha))⟩
theorem InP.cg {G H : Nat → Prop} {w w' : World} {ib tb mb wb lb : Nat} {am : Option Nat} {key : Bs} {m : Nat} {s : InS} (h : InP G w ib tb mb wb lb am key m s) (hp : Cg H w w') (hd : ∀ g, H g → ¬ G g) : InP G w' ib tb mb wb lb am key m s :=
  ⟨hp.row h.row (fun e => hd _ e h.gi), h.turns.cg hp h.gt h.gm hd, h.win.cg hp (fun e => hd _ e h.gw) (fun ab ha e => hd _ e (h.ga ab ha)), h.l.other (hp.block lb h.l.lt (fun e => hd _ e h.gl)), h.gt, h.gm, h.gw, h.gl, h.gi, h.ga, h.nml, h.nma, h.nla, fun g hg => Nat.lt_of_lt_of_le (h.dom g hg) hp.size, h.ok, h.c⟩
theorem InAt.cg {G H : Nat → Prop} {w w' : World} {ib : Nat} {key : Bs} {m : Nat} {s : InS} (h : InAt G w ib key m s) (hp : Cg H w w') (hd : ∀ g, H g → ¬ G g) : InAt G w' ib key m s := by
  obtain ⟨tb, mb, wb, lb, am, h⟩ := h
  exact ⟨tb, mb, wb, lb, am, h.cg hp hd⟩
theorem InAt.pu {G : Nat → Prop} {w w' : World} {ib : Nat} {key : Bs} {m : Nat} {s : InS} (h : InAt G w ib key m s) (hp : Pu w w') : InAt G w' ib key m s := h.cg (H := fun _ => False) (Cg.ofPu hp) (fun _ h => h.elim)
theorem InAt.ok {G : Nat → Prop} {w : World} {ib : Nat} {key : Bs} {m : Nat} {s : InS} (h : InAt G w ib key m s) : s.Ok := by
  obtain ⟨tb, mb, wb, lb, am, h⟩ := h; exact h.ok
theorem InAt.dom {G : Nat → Prop} {w : World} {ib : Nat} {key : Bs} {m : Nat} {s : InS} (h : InAt G w ib key m s) : ∀ g, G g → g < w.heap.size := by
  obtain ⟨tb, mb, wb, lb, am, h⟩ := h; exact h.dom
def s0 : InS := ⟨0, fun _ => none, 0⟩
theorem s0_ok : s0.Ok := ⟨fun k h => (by cases h), by decide⟩
set_option maxRecDepth 100000 in
theorem newIn (key : Bs) (hk : key.length = 32) (w : World) :
    Calls Tryz.prog 7 #[S key] w fun e w' => ∃ ib, e = .returned (.pointer (some ⟨ib, 0, none⟩)) ∧ InAt (Gw (fun _ => False) w w') w' ib key 0 s0 ∧ Pu w w' := by
  have hk' : ((key.length : Int) == 32) = true := by simp; omega
  have hk2 : (key.length : Int) = 32 := by omega
  have hmm := @run_makeMap Tryz.prog
  go_enter Tryz.func7, Tryz.ntmps7
  go_wp2_with fail
  go_ret
  have p1 := (Pu.refl w).alloc (.map #[] 0)
  have p2 := (Pu.refl (w.alloc (.map #[] 0))).alloc (.cells #[S key, .map (some w.heap.size)] 42)
  have p3 := (Pu.refl ((w.alloc (.map #[] 0)).alloc (.cells #[S key, .map (some w.heap.size)] 42))).alloc (.cells #[.int .i64 0, .map none] 53)
  have p4 := (Pu.refl (((w.alloc (.map #[] 0)).alloc (.cells #[S key, .map (some w.heap.size)] 42)).alloc (.cells #[.int .i64 0, .map none] 53))).alloc (.map #[] 0)
  have p5 := (Pu.refl ((((w.alloc (.map #[] 0)).alloc (.cells #[S key, .map (some w.heap.size)] 42)).alloc (.cells #[.int .i64 0, .map none] 53)).alloc (.map #[] 0))).alloc (.cells #[.pointer (some ⟨w.heap.size + 1, 0, none⟩), .pointer (some ⟨w.heap.size + 1 + 1, 0, none⟩), .int .i64 0, .map (some (w.heap.size + 1 + 1 + 1))] 56)
  have m4 := MapAt.made (P := Tryz.prog) (kt := 3) (lit := litI) (((w.alloc (.map #[] 0)).alloc (.cells #[S key, .map (some w.heap.size)] 42)).alloc (.cells #[.int .i64 0, .map none] 53))
  refine ⟨w.heap.size + 1 + 1 + 1 + 1, rfl, ⟨w.heap.size + 1, w.heap.size, w.heap.size + 1 + 1, w.heap.size + 1 + 1 + 1, none, ⟨?_, ⟨fun _ => none, 0, ?_, ?_, Nat.le_refl _, fun e v h => by cases h⟩, ⟨?_, fun _ => ⟨fun _ => rfl, rfl⟩, fun ab h => by cases h⟩, ?_, .inr ⟨by omega, by first | (simp; done) | (simp; omega)⟩, .inr ⟨by omega, by first | (simp; done) | (simp; omega)⟩, .inr ⟨by omega, by first | (simp; done) | (simp; omega)⟩, .inr ⟨by omega, by simp⟩, .inr ⟨by omega, by simp⟩, fun ab h => (by cases h), by omega, by simp, by simp, Gw.dom (fun _ h => h.elim) (by simp; omega), s0_ok, Nat.le_refl _⟩⟩, (((p1.trans p2).trans p3).trans p4).trans p5⟩
  · exact Row.newAt _ _ _ _ (by simp) rfl
  · exact (Row.newAt _ _ _ _ (by simp) rfl).pu ((p3.trans p4).trans p5)
  · exact (MapAt.made w).pu (((p2.trans p3).trans p4).trans p5)
  · exact (Row.newAt _ _ _ _ (by simp) rfl).pu (p4.trans p5)
  · have := m4.pu p5
    simp at this
    exact this
set_option maxRecDepth 100000 in
theorem inNext {G : Nat → Prop} {w : World} {ib : Nat} {key : Bs} {m : Nat} {s : InS} (h : InAt G w ib key m s) :
    Calls Tryz.prog 11 #[.pointer (some ⟨ib, 0, none⟩)] w fun e w' => e = .returned (.int .i64 (s.n : Int)) ∧ w' = w := by
  obtain ⟨tb, mb, wb, lb, am, h⟩ := h
  have c2 := h.row.cell 2 (by simp)
  simp at c2
  clear h
  go_enter Tryz.func11, Tryz.ntmps11
  go_wp2_with (go_at_call 28; refine (load64 _ _ _ c2).mono ?_; rintro e w1 ⟨rfl, rfl⟩)
  go_ret
  exact ⟨rfl, rfl⟩
end Go.Proofs.YtfbnaemnblannaaGreat
set_option linter.unusedSimpArgs false
set_option linter.unusedVariables false
namespace Go.Proofs.YtfbnaemnblannaaGreat
open Go.RowKit Go.Esc
theorem op_callC {P : Program} {ops : Array Oper} {Q : Exit → Act → World → Prop} {g : Nat} {Φ : Value → World → Prop} {C : World → Prop} {i : Nat} {o : Oper} {a' : Act} {w' : World} {f : FuncId} {args : Array Value} (ho : ops[i]? = some o) (hw : Region.wanted o (yielded ops a'.tmps) = true)
    (hrun : (execOp a'.eval o).run P w' = .ok (.enter f args) w') (hc : Calls P f args w' fun e w'' => ∃ v, e = .returned v ∧ (Φ (if o.dst.isSome then v else undef) w'' ∧ C w'') ∧ But g w' w'') :
    wpOp P ops Q i (fun a'' w'' => ∃ v, a'' = a'.put o.dst v ∧ (Φ (if o.dst.isSome then v else undef) w'' ∧ C w'') ∧ But g w' w'') a' w' := by
  unfold wpOp
  simp only [ho, hw, if_true]
  refine .inl ?_
  unfold Oper.wp
  rw [hrun, Oper.upon_enter]
  refine hc.mono ?_
  rintro e w'' ⟨v, rfl, hφ, hp⟩
  exact ⟨v, rfl, hφ, hp⟩
theorem openR_len (k n b h : Bs) : (openR k n b h).1.length ≤ b.length := by
  unfold openR
  split
  · simp only [streamL_length, List.length_take]; omega
  · simp
set_option maxRecDepth 100000 in
set_option maxHeartbeats 1600000 in
theorem inOpened {G : Nat → Prop} {w : World} {ib tb mb wb lb : Nat} {am : Option Nat} {key : Bs} {m : Nat} {s : InS} (h : InP G w ib tb mb wb lb am key m s) (hk : key.length = 32) (q : Nat) (b : Bs) (hq : q < 400) (hb : 24 ≤ b.length) (hb2 : b.length ≤ 90000) (hm : m ≤ 100000) :
    Calls Tryz.prog 26 #[.pointer (some ⟨ib, 0, none⟩), .int .i64 (q : Int), S b] w fun e w' => e = .returned (.tuple #[S ((plainL key q b).getD []), .bool (plainL key q b).isSome]) ∧ Turns (Gw G w w') w' tb mb key (m+1) ∧ But mb w w' := by
  have hN := fun w => nonce q (by omega) w
  have hO := fun w => boxOpen (turnL key (q / 8)) (nonceL q) (b.drop 8) (b.take 8) (by simp; omega) (by simp; omega) w
  have hU := fun w => unpad (openR (turnL key (q / 8)) (nonceL q) (b.drop 8) (b.take 8)).1 w (by have := openR_len (turnL key (q / 8)) (nonceL q) (b.drop 8) (b.take 8); simp at this; omega)
  have hpl : plainL key q b = if (openR (turnL key (q / 8)) (nonceL q) (b.drop 8) (b.take 8)).2 then unpadL (openR (turnL key (q / 8)) (nonceL q) (b.drop 8) (b.take 8)).1 else none := rfl
  have hT := fun (H : Nat → Prop) w' (ht : Turns H w' tb mb key m) => turnsAt H tb mb key m q w' ht hk (by omega) hm
  obtain ⟨k, hkk⟩ : ∃ k, k = turnL key (q / 8) := ⟨_, rfl⟩
  obtain ⟨no, hno⟩ : ∃ no, no = nonceL q := ⟨_, rfl⟩
  rw [← hkk] at hT
  rw [← hno] at hN
  rw [← hkk, ← hno] at hO hU hpl
  obtain ⟨r, hr⟩ : ∃ r, r = openR k no (b.drop 8) (b.take 8) := ⟨_, rfl⟩
  rw [← hr] at hO hU hpl
  obtain ⟨r1, r2⟩ := r
  simp only [rb] at hO
  simp only at hU hpl
  obtain ⟨pl, hplv⟩ : ∃ pl, pl = plainL key q b := ⟨_, rfl⟩
  rw [← hplv] at hpl ⊢
  have hdl : (8 : Int) ≤ b.length := by omega
  have hrow := h.row
  have hnmi : mb ≠ ib := by obtain ⟨f, c, -, hmm, -⟩ := h.turns; exact hmm.ne hrow
  have htu := h.turns
  have hgi := h.gi
  have HN := Lib.hid hN
  have HO := Lib.hid hO
  have HU := Lib.hid hU
  have HT := Lib.hid hT
  have HPL := Lib.hid hpl
  have HTU := Lib.hid htu
  have cA : ∀ args w, (callFunc 16 args).run Tryz.prog w = .ok (.enter 16 args) w := fun args w => run_callFunc_body Tryz.func16 (by kernel_rfl) (by kernel_rfl) args w
  have cN : ∀ args w, (callFunc 17 args).run Tryz.prog w = .ok (.enter 17 args) w := fun args w => run_callFunc_body Tryz.func17 (by kernel_rfl) (by kernel_rfl) args w
  have cO : ∀ args w, (callFunc 46 args).run Tryz.prog w = .ok (.enter 46 args) w := fun args w => run_callFunc_body Tryz.func46 (by kernel_rfl) (by kernel_rfl) args w
  clear hN hO hU hT hkk hno hr hplv h hpl htu
  go_enter Tryz.func26, Tryz.ntmps26
  go_wp2_with fail
  apply region_chain (g := mb) (chain := [5]) (C := (fun s w' => Turns (Gw G w w') w' tb mb key (m + s))) (Φs := (Is _ :: Is _ :: Is _ :: Is _ :: Is _ :: Is _ :: Is _ :: Is _ :: Is _ :: Is _ :: Is _ :: Is _ :: Is _ :: Is _ :: Is _ :: Is _ :: Is _ :: Is _ :: [])) (hm := by kernel_rfl) (hE := by kernel_rfl) (hD := by kernel_rfl) (hup := by kernel_rfl) (hch := by kernel_rfl) (hsize := by kernel_rfl)
  case hC =>
    intro s a b h hp
    exact (Turns.pu h hp).mono (fun g hg => by rcases hg with h1 | h1; exact .inl h1; exact .inr ⟨h1.1, Nat.lt_of_lt_of_le h1.2 hp.size⟩)
  case hC0 =>
    exact HTU.out.mono (fun g hg => .inl hg)
  case hop =>
    refine ⟨?_, ?_, ?_, ?_, ?_, ?_, ?_, ?_, ?_, ?_, ?_, ?_, ?_, ?_, ?_, ?_, ?_, ?_, trivial⟩
    · intro a' w' s hs hp hC hlo hhi he
      rw [if_neg (by decide)]
      clear hlo hhi
      have e0 := hs 0 (by kernel_rfl)
      try simp [Is, Region.binds] at he
      exact op_val rfl (wanted_none rfl) (by first | (go_simp; done) | (go_simp; rfl) | (simp [execOp, Act.eval, go_sem, *]; done) | (simp [execOp, Act.eval, go_sem, *]; rfl)) rfl (Pu.refl _)
    · intro a' w' s hs hp hC hlo hhi he
      rw [if_neg (by decide)]
      clear hlo hhi
      try simp [Is, Region.binds] at he
      exact op_val rfl (wanted_none rfl) (by first | (go_simp; done) | (go_simp; rfl) | (simp [execOp, Act.eval, go_sem, *]; done) | (simp [execOp, Act.eval, go_sem, *]; rfl)) rfl (Pu.refl _)
    · intro a' w' s hs hp hC hlo hhi he
      rw [if_neg (by decide)]
      clear hlo hhi
      try simp [Is, Region.binds] at he
      exact op_val rfl (wanted_none rfl) (by first | (go_simp; done) | (go_simp; rfl) | (simp [execOp, Act.eval, go_sem, *]; done) | (simp [execOp, Act.eval, go_sem, *]; rfl)) rfl (Pu.refl _)
    · intro a' w' s hs hp hC hlo hhi he
      rw [if_neg (by decide)]
      clear hlo hhi
      try simp [Is, Region.binds] at he
      have hc := (hp.row hrow (by omega)).cell 0 (by simp); simp at hc; exact op_val rfl (wanted_none rfl) (by first | (go_simp; done) | (go_simp; rfl)) rfl (Pu.refl _)
    · intro a' w' s hs hp hC hlo hhi he
      rw [if_neg (by decide)]
      clear hlo hhi
      have e1 := hs 1 (by kernel_rfl)
      try simp [Is, Region.binds] at he
      exact op_val rfl (wanted_none rfl) (by first | (go_simp; done) | (go_simp; rfl) | (simp [execOp, Act.eval, go_sem, *]; done) | (simp [execOp, Act.eval, go_sem, *]; rfl)) rfl (Pu.refl _)
    · intro a' w' s hs hp hC hlo hhi he
      rw [if_pos (by decide)]; intro hsc; clear hsc
      have hs0 : s = 0 := Nat.le_antisymm (Nat.le_trans hhi (Nat.le_of_eq (by kernel_rfl))) (Nat.le_trans (Nat.le_of_eq (by kernel_rfl)) hlo)
      subst hs0
      clear hlo hhi
      try simp [Is, Region.binds] at he
      refine op_callC rfl (wanted_none rfl) (by first | (go_simp; done) | (go_simp; rfl)) ((HT.out _ _ hC).mono ?_); rintro e2 w2 ⟨rfl, ht2, hb2'⟩; exact ⟨_, rfl, ⟨rfl, ht2.mono (fun g hg => by rcases hg with (h1 | h1) | h1; exact .inl h1; exact .inr ⟨h1.1, Nat.lt_of_lt_of_le h1.2 hb2'.size⟩; exact .inr ⟨Nat.le_trans hp.size h1.1, h1.2⟩)⟩, hb2'⟩
    · intro a' w' s hs hp hC hlo hhi he
      rw [if_neg (by decide)]
      clear hlo hhi
      have e1 := hs 1 (by kernel_rfl)
      try simp [Is, Region.binds] at he
      exact op_val rfl (wanted_none rfl) (by first | (go_simp; done) | (go_simp; rfl) | (simp [execOp, Act.eval, go_sem, *]; done) | (simp [execOp, Act.eval, go_sem, *]; rfl)) rfl (Pu.refl _)
    · intro a' w' s hs hp hC hlo hhi he
      rw [if_neg (by decide)]
      clear hlo hhi
      try simp [Is, Region.binds] at he
      exact op_callP (HN.out _) rfl (wanted_none rfl) (by first | (go_simp; done) | (go_simp; rfl)) (fun _ => rfl)
    · intro a' w' s hs hp hC hlo hhi he
      rw [if_neg (by decide)]
      clear hlo hhi
      have e2 := hs 2 (by kernel_rfl)
      try simp [Is, Region.binds] at he
      exact op_val rfl (wanted_none rfl) (by first | (go_simp; done) | (go_simp; rfl) | (simp [execOp, Act.eval, go_sem, *]; done) | (simp [execOp, Act.eval, go_sem, *]; rfl)) rfl (Pu.refl _)
    · intro a' w' s hs hp hC hlo hhi he
      rw [if_neg (by decide)]
      clear hlo hhi
      try simp [Is, Region.binds] at he
      exact op_val rfl (wanted_none rfl) (by first | (go_simp; done) | (go_simp; rfl) | (simp [execOp, Act.eval, go_sem, *]; done) | (simp [execOp, Act.eval, go_sem, *]; rfl)) rfl (Pu.refl _)
    · intro a' w' s hs hp hC hlo hhi he
      rw [if_neg (by decide)]
      clear hlo hhi
      have e2 := hs 2 (by kernel_rfl)
      try simp [Is, Region.binds] at he
      exact op_val rfl (wanted_none rfl) (by first | (go_simp; done) | (go_simp; rfl) | (simp [execOp, Act.eval, go_sem, *]; done) | (simp [execOp, Act.eval, go_sem, *]; rfl)) rfl (Pu.refl _)
    · intro a' w' s hs hp hC hlo hhi he
      rw [if_neg (by decide)]
      clear hlo hhi
      try simp [Is, Region.binds] at he
      exact op_val rfl (wanted_none rfl) (by first | (go_simp; done) | (go_simp; rfl) | (simp [execOp, Act.eval, go_sem, *]; done) | (simp [execOp, Act.eval, go_sem, *]; rfl)) rfl (Pu.refl _)
    · intro a' w' s hs hp hC hlo hhi he
      rw [if_neg (by decide)]
      clear hlo hhi
      try simp [Is, Region.binds] at he
      exact op_callP (HO.out _) rfl (wanted_none rfl) (by first | (go_simp; done) | (go_simp; rfl)) (fun _ => rfl)
    · intro a' w' s hs hp hC hlo hhi he
      rw [if_neg (by decide)]
      clear hlo hhi
      try simp [Is, Region.binds] at he
      exact op_val rfl (wanted_none rfl) (by first | (go_simp; done) | (go_simp; rfl) | (simp [execOp, Act.eval, go_sem, *]; done) | (simp [execOp, Act.eval, go_sem, *]; rfl)) rfl (Pu.refl _)
    · intro a' w' s hs hp hC hlo hhi he
      rw [if_neg (by decide)]
      clear hlo hhi
      try simp [Is, Region.binds] at he
      exact op_val rfl (wanted_none rfl) (by first | (go_simp; done) | (go_simp; rfl) | (simp [execOp, Act.eval, go_sem, *]; done) | (simp [execOp, Act.eval, go_sem, *]; rfl)) rfl (Pu.refl _)
    · intro a' w' s hs hp hC hlo hhi he
      rw [if_neg (by decide)]
      clear hlo hhi
      try simp [Is, Region.binds] at he
      exact op_val rfl (wanted_none rfl) (by first | (go_simp; done) | (go_simp; rfl) | (simp [execOp, Act.eval, go_sem, *]; done) | (simp [execOp, Act.eval, go_sem, *]; rfl)) rfl (Pu.refl _)
    · intro a' w' s hs hp hC hlo hhi he
      rw [if_neg (by decide)]
      clear hlo hhi
      try simp [Is, Region.binds] at he
      exact op_val rfl (wanted_none rfl) (by first | (go_simp; done) | (go_simp; rfl) | (simp [execOp, Act.eval, go_sem, *]; done) | (simp [execOp, Act.eval, go_sem, *]; rfl)) rfl (Pu.refl _)
    · intro a' w' s hs hp hC hlo hhi he
      rw [if_neg (by decide)]
      clear hlo hhi
      try simp [Is, Region.binds] at he
      exact op_val rfl (wanted_none rfl) (by first | (go_simp; done) | (go_simp; rfl) | (simp [execOp, Act.eval, go_sem, *]; done) | (simp [execOp, Act.eval, go_sem, *]; rfl)) rfl (Pu.refl _)
  case hend =>
    intro a' w' hdef hsz hs hp hC hall
    obtain ⟨r0, r1, r2, r3, r4, r5, r6, r7, r8, r9, r10, r11, r12, r13, r14, r15, r16, r17, -⟩ := hall
    have hA := agree_done (agree_step (agree_step (agree_step (agree_step (agree_step (agree_step (agree_step (agree_step (agree_step (agree_step (agree_step (agree_step (agree_step (agree_step (agree_step (agree_step (agree_step (agree_step (agree_init [11, 12, 13, 14, 15, 16, 17, 18, 19, 20, 21, 22, 23, 10, 24, 25, 8, 9] hsz hs (by kernel_rfl)) r0) r1) r2) r3) r4) r5) r6) r7) r8) r9) r10) r11) r12) r13) r14) r15) r16) r17)
    have ha := act_of hA hdef
    rw [ha]
    clear ha hA hs hsz hdef r0 r1 r2 r3 r4 r5 r6 r7 r8 r9 r10 r11 r12 r13 r14 r15 r16 r17 
    (try simp only [List.setIfInBounds_toArray])
    (try dsimp only [List.set_cons_zero, List.set_cons_succ])
    (try simp only [Exit.then])
    have HC2 := Lib.hid hC
    have HPB := Lib.hid hp
    clear hC hp
    have hplo := HPL.out
    cases r2 with
    | false =>
      have e1 : pl = none := by simpa using hplo
      have E1 := Lib.hid e1
      clear hplo e1
      go_wp2_with fail
      go_ret2
      exact ⟨by rw [E1.out]; rfl, HC2.out, HPB.out⟩
    | true =>
      have e1 : pl = unpadL r1 := by simpa using hplo
      rw [← e1] at HU
      clear hplo e1
      go_wp2_with (go_at_call 47; refine (HU.out _).mono ?_; rintro e3 w3 ⟨rfl, hp3⟩)
      go_ret2
      exact ⟨rfl, (HC2.out.pu hp3).mono (fun g hg => by rcases hg with h1 | h1; exact .inl h1; exact .inr ⟨h1.1, Nat.lt_of_lt_of_le h1.2 hp3.size⟩), HPB.out.trans (But.pu hp3)⟩
end Go.Proofs.YtfbnaemnblannaaGreat
