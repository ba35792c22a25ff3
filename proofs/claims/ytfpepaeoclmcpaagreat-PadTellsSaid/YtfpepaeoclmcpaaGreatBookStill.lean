/- Package escutcheonbook: are the lists of numbers as they were; are they marked. -/
import Derived.Test.YtfpepaeoclmcpaaGreatBookInts
set_option linter.unusedSimpArgs false
set_option linter.unusedVariables false
namespace Go.Proofs.YtfpepaeoclmcpaaGreat
open Go.RowKit Go.Esc
/-- The slice v holds the values vs. -/
def SL (w : World) (v : Value) (vs : List Value) : Prop := ∃ g cap, v = .slice (some ⟨g, 0, none⟩) vs.length cap ∧ vs.length ≤ 250 ∧ g < w.heap.size ∧ ∀ j u, vs[j]? = some u → w.cell? ⟨g, j, none⟩ = some u
theorem SL.pu {w w' : World} {v : Value} {l : List Value} (h : SL w v l) (hp : Pu w w') : SL w' v l := by
  obtain ⟨g, cap, hv, hm, hg, hc⟩ := h
  exact ⟨g, cap, hv, hm, Nat.lt_of_lt_of_le hg hp.size, fun j u hj => by rw [Below.cell hp (p := ⟨g, j, none⟩) hg]; exact hc j u hj⟩
set_option maxRecDepth 100000 in
set_option maxHeartbeats 1600000 in
theorem stillInts (b : Nat) (e : TypeId) (xs : List Value) (v2 v3 : Value) (vs us : List Value) (w : World) (hr : Row w b e xs) (h2 : xs[2]? = some v2) (h3 : xs[3]? = some v3)
    (s2 : SL w v2 vs) (s3 : SL w v3 us) (hl : us.length = vs.length) (he : ∀ (j : Nat) (v u : Value), vs[j]? = some v → us[j]? = some u → ∃ l, LI w v l ∧ LI w u l) :
    Calls Tryz.prog 24 #[.pointer (some ⟨b, 0, none⟩)] w fun e w' => e = .returned (.bool true) ∧ Pu w w' := by
  have hx2 : 2 < xs.length := (List.getElem?_eq_some_iff.1 h2).1
  have hx3 : 3 < xs.length := (List.getElem?_eq_some_iff.1 h3).1
  have hB2 : ∀ w' : World, Pu w w' → w'.cell? ⟨b, 2, none⟩ = some v2 := fun w' hp => by rw [(hr.pu hp).cell 2 hx2, ← List.getElem?_eq_getElem, h2]
  have hB3 : ∀ w' : World, Pu w w' → w'.cell? ⟨b, 3, none⟩ = some v3 := fun w' hp => by rw [(hr.pu hp).cell 3 hx3, ← List.getElem?_eq_getElem, h3]
  have S2 := Lib.hid s2
  have S3 := Lib.hid s3
  obtain ⟨q2, c2, rfl, hm, -, -⟩ := s2
  obtain ⟨q3, c3, rfl, -, -, -⟩ := s3
  have C2 : ∀ w' : World, Pu w w' → ∀ j u, vs[j]? = some u → w'.cell? ⟨q2, j, none⟩ = some u := by
    intro w' hp
    obtain ⟨g, c, hv, _, _, hc⟩ := S2.out.pu hp
    cases hv; exact hc
  have C3 : ∀ w' : World, Pu w w' → ∀ j u, us[j]? = some u → w'.cell? ⟨q3, j, none⟩ = some u := by
    intro w' hp
    obtain ⟨g, c, hv, _, _, hc⟩ := S3.out.pu hp
    cases hv; exact hc
  have HC2 := Lib.hid C2
  have HC3 := Lib.hid C3
  have HB2 := Lib.hid hB2
  have HB3 := Lib.hid hB3
  have HE := Lib.hid he
  have HL := Lib.hid hl
  rw [hl] at hB3
  rw [hl] at HB3
  clear C2 C3 S2 S3 hB2 hB3 he h2 h3 hx2 hx3 hr hl
  go_enter Tryz.func24, Tryz.ntmps24
  go_wp2_with fail
  go_loopw [3] (fun i wr => ∃ k : Nat, k ≤ vs.length ∧ i = .int .i64 k ∧ Below w.heap.size w wr) (fun i _ => vs.length - (intOf i).toNat)
  case atStart => exact ⟨0, Nat.zero_le _, rfl, Below.refl _ _⟩
  case round =>
    obtain ⟨k, hk, rfl, hbel⟩ := hrel
    have hb2 := HB2.out wr hbel
    by_cases hlt : k < vs.length
    · have hk1 : (k : Int) < vs.length := by omega
      have hk0 : (0 : Int) ≤ k := by omega
      obtain ⟨v, hv⟩ : ∃ v, vs[k]? = some v := ⟨_, List.getElem?_eq_getElem hlt⟩
      obtain ⟨u, hu⟩ : ∃ u, us[k]? = some u := ⟨_, List.getElem?_eq_getElem (by rw [HL.out]; exact hlt)⟩
      obtain ⟨l, l1, l2⟩ := HE.out k v u hv hu
      have hSa : ∀ w' : World, Pu wr w' → Calls Tryz.prog 13 #[v, u] w' fun e w' => e = .returned (.bool true) ∧ _ := fun w' hp => sameInts v u l w' (l1.pu (hbel.trans (Below.mono hp hbel.size))) (l2.pu (hbel.trans (Below.mono hp hbel.size)))
      obtain ⟨g1, n1, rfl, -, -, -⟩ := l1
      obtain ⟨g2, n2, rfl, -, -, -⟩ := l2
      have D1 : ∀ w' : World, Pu wr w' → w'.cell? ⟨q2, k, none⟩ = some _ := fun w' hp => HC2.out w' (hbel.trans (Below.mono hp hbel.size)) k _ hv
      have D2 : ∀ w' : World, Pu wr w' → w'.cell? ⟨q3, k, none⟩ = some _ := fun w' hp => HC3.out w' (hbel.trans (Below.mono hp hbel.size)) k _ hu
      have B2 : ∀ w' : World, Pu wr w' → w'.cell? ⟨b, 2, none⟩ = some _ := fun w' hp => HB2.out w' (hbel.trans (Below.mono hp hbel.size))
      have B3 : ∀ w' : World, Pu wr w' → w'.cell? ⟨b, 3, none⟩ = some _ := fun w' hp => HB3.out w' (hbel.trans (Below.mono hp hbel.size))
      have HD1 := Lib.hid D1
      have HD2 := Lib.hid D2
      have HA2 := Lib.hid B2
      have HA3 := Lib.hid B3
      have HSA := Lib.hid hSa
      have cS : ∀ args w, (callFunc 13 args).run Tryz.prog w = .ok (.enter 13 args) w := fun args w => run_callFunc_body Tryz.func13 (by kernel_rfl) (by kernel_rfl) args w
      clear D1 D2 B2 B3 hSa hv hu
      go_wp2_with fail
      apply region_pu (Φs := (Is _ :: Is _ :: Is _ :: Is _ :: Is _ :: Is _ :: Is _ :: Is _ :: Is _ :: Is _ :: Is _ :: Is _ :: Is _ :: Is _ :: Is _ :: Is _ :: [])) (hm := by kernel_rfl) (hE := by kernel_rfl) (hD := by kernel_rfl) (hsize := by kernel_rfl)
      case hop =>
        refine ⟨?_, ?_, ?_, ?_, ?_, ?_, ?_, ?_, ?_, ?_, ?_, ?_, ?_, ?_, ?_, ?_, trivial⟩
        · intro a' w' hs hp he
          have e0 := hs 0 (by kernel_rfl)
          try simp [Is, Region.binds] at he
          exact op_val rfl (wanted_none rfl) (by first | (go_simp; done) | (go_simp; rfl) | (simp [execOp, Act.eval, go_sem, *]; done) | (simp [execOp, Act.eval, go_sem, *]; rfl)) rfl (Pu.refl _)
        · intro a' w' hs hp he
          try simp [Is, Region.binds] at he
          exact op_val rfl (wanted_none rfl) (by first | (go_simp; done) | (go_simp; rfl) | (simp [execOp, Act.eval, go_sem, *]; done) | (simp [execOp, Act.eval, go_sem, *]; rfl)) rfl (Pu.refl _)
        · intro a' w' hs hp he
          try simp [Is, Region.binds] at he
          exact op_val rfl (wanted_none rfl) (by first | (go_simp; done) | (go_simp; rfl) | (simp [execOp, Act.eval, go_sem, *]; done) | (simp [execOp, Act.eval, go_sem, *]; rfl)) rfl (Pu.refl _)
        · intro a' w' hs hp he
          try simp [Is, Region.binds] at he
          have hc := HA2.out _ hp; exact op_val rfl (wanted_none rfl) (by first | (go_simp; done) | (go_simp; rfl)) rfl (Below.refl _ _)
        · intro a' w' hs hp he
          have e3 := hs 3 (by kernel_rfl)
          try simp [Is, Region.binds] at he
          exact op_val rfl (wanted_none rfl) (by first | (go_simp; done) | (go_simp; rfl) | (simp [execOp, Act.eval, go_sem, *]; done) | (simp [execOp, Act.eval, go_sem, *]; rfl)) rfl (Pu.refl _)
        · intro a' w' hs hp he
          try simp [Is, Region.binds] at he
          exact op_val rfl (wanted_none rfl) (by first | (go_simp; done) | (go_simp; rfl) | (simp [execOp, Act.eval, go_sem, *]; done) | (simp [execOp, Act.eval, go_sem, *]; rfl)) rfl (Pu.refl _)
        · intro a' w' hs hp he
          try simp [Is, Region.binds] at he
          have hc := HD1.out _ hp; exact op_val rfl (wanted_none rfl) (by first | (go_simp; done) | (go_simp; rfl)) rfl (Below.refl _ _)
        · intro a' w' hs hp he
          have e0 := hs 0 (by kernel_rfl)
          try simp [Is, Region.binds] at he
          exact op_val rfl (wanted_none rfl) (by first | (go_simp; done) | (go_simp; rfl) | (simp [execOp, Act.eval, go_sem, *]; done) | (simp [execOp, Act.eval, go_sem, *]; rfl)) rfl (Pu.refl _)
        · intro a' w' hs hp he
          try simp [Is, Region.binds] at he
          exact op_val rfl (wanted_none rfl) (by first | (go_simp; done) | (go_simp; rfl) | (simp [execOp, Act.eval, go_sem, *]; done) | (simp [execOp, Act.eval, go_sem, *]; rfl)) rfl (Pu.refl _)
        · intro a' w' hs hp he
          try simp [Is, Region.binds] at he
          exact op_val rfl (wanted_none rfl) (by first | (go_simp; done) | (go_simp; rfl) | (simp [execOp, Act.eval, go_sem, *]; done) | (simp [execOp, Act.eval, go_sem, *]; rfl)) rfl (Pu.refl _)
        · intro a' w' hs hp he
          try simp [Is, Region.binds] at he
          have hc := HA3.out _ hp; exact op_val rfl (wanted_none rfl) (by first | (go_simp; done) | (go_simp; rfl)) rfl (Below.refl _ _)
        · intro a' w' hs hp he
          have e3 := hs 3 (by kernel_rfl)
          try simp [Is, Region.binds] at he
          exact op_val rfl (wanted_none rfl) (by first | (go_simp; done) | (go_simp; rfl) | (simp [execOp, Act.eval, go_sem, *]; done) | (simp [execOp, Act.eval, go_sem, *]; rfl)) rfl (Pu.refl _)
        · intro a' w' hs hp he
          try simp [Is, Region.binds] at he
          exact op_val rfl (wanted_none rfl) (by first | (go_simp; done) | (go_simp; rfl) | (simp [execOp, Act.eval, go_sem, *]; done) | (simp [execOp, Act.eval, go_sem, *]; rfl)) rfl (Pu.refl _)
        · intro a' w' hs hp he
          try simp [Is, Region.binds] at he
          have hc := HD2.out _ hp; exact op_val rfl (wanted_none rfl) (by first | (go_simp; done) | (go_simp; rfl)) rfl (Below.refl _ _)
        · intro a' w' hs hp he
          try simp [Is, Region.binds] at he
          exact op_callP (HSA.out _ hp) rfl (wanted_none rfl) (by first | (go_simp; done) | (go_simp; rfl)) (fun _ => rfl)
        · intro a' w' hs hp he
          try simp [Is, Region.binds] at he
          exact op_val rfl (wanted_none rfl) (by first | (go_simp; done) | (go_simp; rfl) | (simp [execOp, Act.eval, go_sem, *]; done) | (simp [execOp, Act.eval, go_sem, *]; rfl)) rfl (Pu.refl _)
      case hend =>
        intro a' w' hdef hsz hs hp hall
        obtain ⟨r0, r1, r2, r3, r4, r5, r6, r7, r8, r9, r10, r11, r12, r13, r14, r15, -⟩ := hall
        have hA := agree_done (agree_step (agree_step (agree_step (agree_step (agree_step (agree_step (agree_step (agree_step (agree_step (agree_step (agree_step (agree_step (agree_step (agree_step (agree_step (agree_step (agree_init [13, 14, 15, 16, 17, 18, 19, 20, 21, 22, 23, 24, 25, 26, 27, 28] hsz hs (by kernel_rfl)) r0) r1) r2) r3) r4) r5) r6) r7) r8) r9) r10) r11) r12) r13) r14) r15)
        have ha := act_of hA hdef
        rw [ha]
        clear ha hA hs hsz hdef r0 r1 r2 r3 r4 r5 r6 r7 r8 r9 r10 r11 r12 r13 r14 r15 
        (try simp only [List.setIfInBounds_toArray])
        (try dsimp only [List.set_cons_zero, List.set_cons_succ])
        (try simp only [Exit.then])
        have hbel2 := hbel.trans (Below.mono hp hbel.size)
        clear hp
        go_wp2_with fail
        go_roundw
        case rel => exact ⟨k + 1, by omega, by go_num, hbel2⟩
        case measure => simp [intOf]; omega
    · obtain rfl : k = vs.length := by omega
      have hlt' : decide ((vs.length : Int) < vs.length) = false := by simp
      go_wp2_with fail
      go_ret
      exact ⟨rfl, hbel⟩
def IsLI (l : List Int) : Value → World → Prop := fun v w => LI w v l
instance (l : List Int) : Stable (IsLI l) := ⟨fun _ _ _ h hp => LI.pu h hp⟩
theorem op_callQ {P : Program} {ops : Array Oper} {Q : Exit → Act → World → Prop} {Φ : Value → World → Prop} {i : Nat} {o : Oper} {a' : Act} {w' : World} {f : FuncId} {args : Array Value} (hc : Calls P f args w' fun e w'' => ∃ v, e = .returned v ∧ Φ v w'' ∧ Pu w' w'') (ho : ops[i]? = some o) (hw : Region.wanted o (yielded ops a'.tmps) = true)
    (hrun : (execOp a'.eval o).run P w' = .ok (.enter f args) w') (hd : o.dst.isSome = true) :
    wpOp P ops Q i (fun a'' w'' => ∃ v, a'' = a'.put o.dst v ∧ Φ (if o.dst.isSome then v else undef) w'' ∧ Pu w' w'') a' w' :=
  op_call ho hw hrun (hc.mono (by rintro e w'' ⟨v, rfl, h, hp⟩; exact ⟨v, rfl, by rw [if_pos hd]; exact h, hp⟩))
theorem markLI (i n : Nat) (hi : i ≤ 1000) (h0 : 0 < n) (hn : n ≤ 1000) (w : World) :
    Calls Tryz.prog 67 #[.int .i64 i, .int .i64 0, .int .i64 n] w fun e w' => ∃ v, e = .returned v ∧ IsLI (marksL i 0 n) v w' ∧ Pu w w' := by
  refine (markInts i 0 n hi (by omega) hn w).mono ?_
  rintro e w' ⟨v, rfl, ho, hp⟩
  exact ⟨v, rfl, LI.own ho (marksL_length _ _ _) h0 (by omega), hp⟩
set_option maxRecDepth 100000 in
set_option maxHeartbeats 1600000 in
theorem markedInts (v2 : Value) (vs : List Value) (w : World) (s2 : SL w v2 vs) (he : ∀ (j : Nat) (v : Value), vs[j]? = some v → ∃ n, 0 < n ∧ n ≤ 1000 ∧ LI w v (marksL j 0 n)) :
    Calls Tryz.prog 45 #[v2] w fun e w' => e = .returned (.bool true) ∧ Pu w w' := by
  have S2 := Lib.hid s2
  obtain ⟨q2, c2, rfl, hm, -, -⟩ := s2
  have C2 : ∀ w' : World, Pu w w' → ∀ j u, vs[j]? = some u → w'.cell? ⟨q2, j, none⟩ = some u := by
    intro w' hp
    obtain ⟨g, c, hv, _, _, hc⟩ := S2.out.pu hp
    cases hv; exact hc
  have HC2 := Lib.hid C2
  have HE := Lib.hid he
  clear C2 S2 he
  go_enter Tryz.func45, Tryz.ntmps45
  go_wp2_with fail
  go_loopw [3] (fun i wr => ∃ k : Nat, k ≤ vs.length ∧ i = .int .i64 k ∧ Below w.heap.size w wr) (fun i _ => vs.length - (intOf i).toNat)
  case atStart => exact ⟨0, Nat.zero_le _, rfl, Below.refl _ _⟩
  case round =>
    obtain ⟨k, hk, rfl, hbel⟩ := hrel
    by_cases hlt : k < vs.length
    · have hk1 : (k : Int) < vs.length := by omega
      have hk0 : (0 : Int) ≤ k := by omega
      obtain ⟨v, hv⟩ : ∃ v, vs[k]? = some v := ⟨_, List.getElem?_eq_getElem hlt⟩
      obtain ⟨n, n0, n1, l1⟩ := HE.out k v hv
      have hLa : ∀ w' : World, Pu wr w' → LI w' v (marksL k 0 n) := fun w' hp => l1.pu (hbel.trans (Below.mono hp hbel.size))
      have hMk := fun w' => markLI k n (by omega) n0 n1 w'
      have hll := marksL_length k 0 n
      obtain ⟨l, hl⟩ : ∃ l, l = marksL k 0 n := ⟨_, rfl⟩
      rw [← hl] at hLa hMk hll l1
      obtain ⟨g1, c1, rfl, -, -, -⟩ := l1
      have D1 : ∀ w' : World, Pu wr w' → w'.cell? ⟨q2, k, none⟩ = some _ := fun w' hp => HC2.out w' (hbel.trans (Below.mono hp hbel.size)) k _ hv
      have HD1 := Lib.hid D1
      have HLA := Lib.hid hLa
      have HMK := Lib.hid hMk
      have cS : ∀ args w, (callFunc 13 args).run Tryz.prog w = .ok (.enter 13 args) w := fun args w => run_callFunc_body Tryz.func13 (by kernel_rfl) (by kernel_rfl) args w
      have cM : ∀ args w, (callFunc 67 args).run Tryz.prog w = .ok (.enter 67 args) w := fun args w => run_callFunc_body Tryz.func67 (by kernel_rfl) (by kernel_rfl) args w
      clear D1 hLa hMk hv hl
      go_wp2_with fail
      apply region_pu (Φs := (Is _ :: Is _ :: Is _ :: Is _ :: Is _ :: Is _ :: Is _ :: Is _ :: Is _ :: Is _ :: IsLI l :: Is _ :: Is _ :: [])) (hm := by kernel_rfl) (hE := by kernel_rfl) (hD := by kernel_rfl) (hsize := by kernel_rfl)
      case hop =>
        refine ⟨?_, ?_, ?_, ?_, ?_, ?_, ?_, ?_, ?_, ?_, ?_, ?_, ?_, trivial⟩
        · intro a' w' hs hp he
          have e0 := hs 0 (by kernel_rfl)
          try simp [Is, Region.binds] at he
          exact op_val rfl (wanted_none rfl) (by first | (go_simp; done) | (go_simp; rfl) | (simp [execOp, Act.eval, go_sem, *]; done) | (simp [execOp, Act.eval, go_sem, *]; rfl)) rfl (Pu.refl _)
        · intro a' w' hs hp he
          have e3 := hs 3 (by kernel_rfl)
          try simp [Is, Region.binds] at he
          exact op_val rfl (wanted_none rfl) (by first | (go_simp; done) | (go_simp; rfl) | (simp [execOp, Act.eval, go_sem, *]; done) | (simp [execOp, Act.eval, go_sem, *]; rfl)) rfl (Pu.refl _)
        · intro a' w' hs hp he
          try simp [Is, Region.binds] at he
          exact op_val rfl (wanted_none rfl) (by first | (go_simp; done) | (go_simp; rfl) | (simp [execOp, Act.eval, go_sem, *]; done) | (simp [execOp, Act.eval, go_sem, *]; rfl)) rfl (Pu.refl _)
        · intro a' w' hs hp he
          try simp [Is, Region.binds] at he
          have hc := HD1.out _ hp; exact op_val rfl (wanted_none rfl) (by first | (go_simp; done) | (go_simp; rfl)) rfl (Below.refl _ _)
        · intro a' w' hs hp he
          have e3 := hs 3 (by kernel_rfl)
          try simp [Is, Region.binds] at he
          exact op_val rfl (wanted_none rfl) (by first | (go_simp; done) | (go_simp; rfl) | (simp [execOp, Act.eval, go_sem, *]; done) | (simp [execOp, Act.eval, go_sem, *]; rfl)) rfl (Pu.refl _)
        · intro a' w' hs hp he
          have e0 := hs 0 (by kernel_rfl)
          try simp [Is, Region.binds] at he
          exact op_val rfl (wanted_none rfl) (by first | (go_simp; done) | (go_simp; rfl) | (simp [execOp, Act.eval, go_sem, *]; done) | (simp [execOp, Act.eval, go_sem, *]; rfl)) rfl (Pu.refl _)
        · intro a' w' hs hp he
          have e3 := hs 3 (by kernel_rfl)
          try simp [Is, Region.binds] at he
          exact op_val rfl (wanted_none rfl) (by first | (go_simp; done) | (go_simp; rfl) | (simp [execOp, Act.eval, go_sem, *]; done) | (simp [execOp, Act.eval, go_sem, *]; rfl)) rfl (Pu.refl _)
        · intro a' w' hs hp he
          try simp [Is, Region.binds] at he
          exact op_val rfl (wanted_none rfl) (by first | (go_simp; done) | (go_simp; rfl) | (simp [execOp, Act.eval, go_sem, *]; done) | (simp [execOp, Act.eval, go_sem, *]; rfl)) rfl (Pu.refl _)
        · intro a' w' hs hp he
          try simp [Is, Region.binds] at he
          have hc := HD1.out _ hp; exact op_val rfl (wanted_none rfl) (by first | (go_simp; done) | (go_simp; rfl)) rfl (Below.refl _ _)
        · intro a' w' hs hp he
          try simp [Is, Region.binds] at he
          exact op_val rfl (wanted_none rfl) (by first | (go_simp; done) | (go_simp; rfl) | (simp [execOp, Act.eval, go_sem, *]; done) | (simp [execOp, Act.eval, go_sem, *]; rfl)) rfl (Pu.refl _)
        · intro a' w' hs hp he
          try simp [Is, Region.binds] at he
          exact op_callQ (HMK.out _) rfl (wanted_none rfl) (by first | (go_simp; done) | (go_simp; rfl)) rfl
        · intro a' w' hs hp he
          try simp [Is, Region.binds] at he
          obtain ⟨h13, g, cp, hv, hm9, hg9, hc9⟩ := he; exact op_callP (sameInts _ _ l _ (HLA.out _ hp) ⟨g, cp, rfl, hm9, hg9, hc9⟩) rfl (wanted_none rfl) (by first | (go_simp; done) | (go_simp; rfl)) (fun _ => rfl)
        · intro a' w' hs hp he
          try simp [Is, Region.binds] at he
          exact op_val rfl (wanted_none rfl) (by first | (go_simp; done) | (go_simp; rfl) | (simp [execOp, Act.eval, go_sem, *]; done) | (simp [execOp, Act.eval, go_sem, *]; rfl)) rfl (Pu.refl _)
      case hend =>
        intro a' w' hdef hsz hs hp hall
        obtain ⟨r0, r1, r2, r3, r4, r5, r6, r7, r8, r9, r10, r11, r12, -⟩ := hall
        obtain ⟨g10, cap10, rv10, row10⟩ := r10
        have hA := agree_done (agree_step (agree_step (agree_step (agree_step (agree_step (agree_step (agree_step (agree_step (agree_step (agree_step (agree_step (agree_step (agree_step (agree_init [10, 11, 12, 13, 14, 15, 16, 17, 18, 19, 20, 21, 22] hsz hs (by kernel_rfl)) r0) r1) r2) r3) r4) r5) r6) r7) r8) r9) rv10) r11) r12)
        have ha := act_of hA hdef
        rw [ha]
        clear ha hA hs hsz hdef r0 r1 r2 r3 r4 r5 r6 r7 r8 r9 r11 r12 rv10
        (try simp only [List.setIfInBounds_toArray])
        (try dsimp only [List.set_cons_zero, List.set_cons_succ])
        (try simp only [Exit.then])
        have hbel2 := hbel.trans (Below.mono hp hbel.size)
        clear hp
        go_wp2_with fail
        go_roundw
        case rel => exact ⟨k + 1, by omega, by go_num, hbel2⟩
        case measure => simp [intOf]; omega
    · obtain rfl : k = vs.length := by omega
      have hlt' : decide ((vs.length : Int) < vs.length) = false := by simp
      go_wp2_with fail
      go_ret
      exact ⟨rfl, hbel⟩
end Go.Proofs.YtfpepaeoclmcpaaGreat
