/- The schedule of a block. -/
import Derived.Test.YtdjbhbefghihcaaRot
import Derived.Test.YtdjbhbefghihcaaRegionW
import Derived.Test.YtdjbhbefghihcaaMem
set_option linter.unusedSimpArgs false
set_option linter.unusedVariables false
namespace Go.Proofs.Ytdjbhbefghihcaa
open Go.RowKit Go.Esc
theorem sched_length (b : Bs) (t : Nat) : (sched b t).length = t := by induction t <;> simp [sched, *]
/-- Words as cells. -/
def vs (l : List Wd) : List Value := l.map fun x => V x
theorem vs_length (l : List Wd) : (vs l).length = l.length := by simp [vs]
theorem vs_set (l : List Wd) (i : Nat) (x : Wd) : (vs l).set i (V x) = vs (l.set i x) := by simp [vs, List.map_set]
theorem vs_get (l : List Wd) (i : Nat) (h : i < l.length) : (vs l)[i]? = some (V (l.getD i 0)) := by
  simp [vs, List.getElem?_eq_getElem h]
theorem Row.word {w : World} {g : Nat} {e : TypeId} {l : List Wd} (h : Row w g e (vs l)) (j : Nat) (hj : j < l.length) : w.cell? ⟨g, j, none⟩ = some (V (l.getD j 0)) := by
  rw [h.cell' j (by rw [vs_length]; exact hj), vs_get l j hj]
theorem Row.newAt (w1 : World) (g : Nat) (c : Array Value) (e : TypeId) {xs : List Value} (hg : w1.heap.size = g) (h : c.toList = xs) : Row (w1.alloc (.cells c e)) g e xs := by
  subst hg; subst h; exact Row.new w1 c e
def schedArr (b : Bs) (t : Nat) : List Wd := sched b t ++ List.replicate (64 - t) 0
theorem schedArr_length (b : Bs) (t : Nat) (h : t ≤ 64) : (schedArr b t).length = 64 := by simp [schedArr, sched_length]; omega
theorem schedArr_set (b : Bs) (t : Nat) (h : t < 64) : (schedArr b t).set t (if t < 16 then word b t else nextW (sched b t) t) = schedArr b (t+1) := by
  obtain ⟨j, hj⟩ : ∃ j, 64 - t = j + 1 := ⟨63 - t, by omega⟩
  rw [schedArr, schedArr, hj, show 64 - (t + 1) = j by omega, List.replicate_succ, List.set_append]
  simp [sched_length, sched]
theorem schedArr_get (b : Bs) (t i : Nat) (h : i < t) : (schedArr b t).getD i 0 = (sched b t).getD i 0 := by
  simp only [schedArr, List.getD_eq_getElem?_getD]
  rw [List.getElem?_append_left (by rw [sched_length]; exact h)]
theorem sched_val (a x d y : Wd) : Value.int .u32 ((((wd a + Go.bits .xor .u32 (wd (rotr x 7 ^^^ rotr x 18)) (wd x / 8)) % 4294967296 + wd d) % 4294967296 + Go.bits .xor .u32 (wd (rotr y 17 ^^^ rotr y 19)) (wd y / 1024)) % 4294967296)
    = V (a + (rotr x 7 ^^^ rotr x 18 ^^^ x >>> 3) + d + (rotr y 17 ^^^ rotr y 19 ^^^ y >>> 10)) := by
  simp only [wd_shr3, wd_shr10, wd_xor, wd_add']
theorem word_of (b : Bs) (t : Nat) : (b.take (4 * t + 4)).drop (4 * t) = (b.drop (4 * t)).take 4 := by
  rw [List.drop_take]; congr 1; omega
set_option maxRecDepth 100000 in
set_option maxHeartbeats 1600000 in
theorem schedule (b : Bs) (hb : b.length = 64) (w : World) :
    Calls Try.prog 134 #[S b] w fun e w' => ∃ l, l = vs (sched b 64) ∧ e = .returned (.agg l.toArray) ∧ Pu w w' := by
  go_enter Try.func134, Try.ntmps134
  go_wp2_with fail
  go_loopw [7] (fun i wr => ∃ t : Nat, t ≤ 64 ∧ i = .int .i64 t ∧ Row wr w.heap.size 78 (vs (schedArr [] 0)) ∧ Row wr (w.heap.size + 1) 78 (vs (schedArr b t)) ∧ Below w.heap.size w wr) (fun i _ => 64 - (intOf i).toNat)
  case atStart =>
    refine ⟨0, by omega, rfl, (Row.new w _ _).alloc _, ?_, ((Below.refl _ _).alloc (Nat.le_refl _) _).alloc (by simp) _⟩
    exact Row.newAt _ _ _ _ (by simp) rfl
  case round =>
    obtain ⟨t, ht, rfl, hres, hrow, hbel⟩ := hrel
    by_cases hlt : t < 64
    · have hl := schedArr_length b t ht
      have hnext := schedArr_set b t hlt
      by_cases h16 : t < 16
      · rw [if_pos h16] at hnext
        have hbig := fun w => big ((b.take (4 * t + 4)).drop (4 * t)) w (by simp; omega)
        have HB := Lib.hid hbig
        have hs1 : (4 : Int) * t ≤ 4 * t + 4 := by omega
        have hs2 : (4 : Int) * t + 4 ≤ b.length := by omega
        have hs0 : (0 : Int) ≤ 4 * t := by omega
        have hs5 : (0 : Int) ≤ 4 * t + 4 := by omega
        have hs6 : (0 : Int) ≤ t := by omega
        have hs3 : ((4 : Int) * t).toNat = 4 * t := by omega
        have hs4 : ((4 : Int) * t + 4).toNat = 4 * t + 4 := by omega
        have HL := Lib.hid hb
        have HN := Lib.hid hnext
        clear hbig hb hnext
        go_wp2_with (go_at_call 78; refine (HB.out _).mono ?_; rintro e w1 ⟨rfl, hp1⟩; replace hrow := hrow.pu hp1; replace hres := hres.pu hp1; replace hbel := hbel.trans (Below.mono hp1 hbel.size); have hc := Row.word hrow t (by omega); have hf := hrow.frozen t (by rw [vs_length]; omega))
        go_roundw
        case rel =>
          refine ⟨t + 1, by omega, by go_num, hres.setOther _ _ (by simp), ?_, hbel.setCell (by simp) _⟩
          have := hrow.set t (V (word b t))
          rw [vs_set, HN.out] at this
          rw [word_of]
          exact this
        case measure => simp [intOf]; omega
      · have h16' : (16 : Int) ≤ t := by omega
        have e15 : ((t : Int) - 15).toNat = t - 15 := by omega
        have e2 : ((t : Int) - 2).toNat = t - 2 := by omega
        have e16 : ((t : Int) - 16).toNat = t - 16 := by omega
        have e7 : ((t : Int) - 7).toNat = t - 7 := by omega
        have f15 : (0 : Int) ≤ t - 15 := by omega
        have f2 : (0 : Int) ≤ t - 2 := by omega
        have f16 : (0 : Int) ≤ t - 16 := by omega
        have f7 : (0 : Int) ≤ t - 7 := by omega
        have g15 : (t : Int) - 15 < 64 := by omega
        have g2 : (t : Int) - 2 < 64 := by omega
        have g16 : (t : Int) - 16 < 64 := by omega
        have g7 : (t : Int) - 7 < 64 := by omega
        have i15 : IntKind.i64.wrap ((t : Int) - 15) = t - 15 := by rw [IntKind.wrap_i64]; omega
        have i2 : IntKind.i64.wrap ((t : Int) - 2) = t - 2 := by rw [IntKind.wrap_i64]; omega
        have i16 : IntKind.i64.wrap ((t : Int) - 16) = t - 16 := by rw [IntKind.wrap_i64]; omega
        have i7 : IntKind.i64.wrap ((t : Int) - 7) = t - 7 := by rw [IntKind.wrap_i64]; omega
        have hcall : ∀ args w, (callFunc 153 args).run Try.prog w = .ok (.enter 153 args) w := fun args w => run_callFunc_body Try.func153 (by kernel_rfl) (by kernel_rfl) args w
        have h0t : (0 : Int) ≤ t := by omega
        have h64t : (t : Int) < 64 := by omega
        have q15 : (15 : Int) ≤ t := by omega
        have q2 : (2 : Int) ≤ t := by omega
        have q7 : (7 : Int) ≤ t := by omega
        have h16n : decide ((t : Int) < 16) = false := by simp; omega
        rw [if_neg h16] at hnext
        have HN := Lib.hid hnext
        have HL := Lib.hid hb
        clear hb hnext
        go_wp2_with fail
        apply region_pu (Φs := (Is _ :: Is _ :: Is _ :: Is _ :: Is _ :: Is _ :: Is _ :: Is _ :: Is _ :: Is _ :: [])) (hm := by kernel_rfl) (hE := by kernel_rfl) (hD := by kernel_rfl) (hsize := by kernel_rfl)
        case hop =>
          refine ⟨?_, ?_, ?_, ?_, ?_, ?_, ?_, ?_, ?_, ?_, trivial⟩
          · intro a' w' hs hp he
            have e4 := hs 4 (by kernel_rfl)
            try simp [Is, Region.binds] at he
            exact op_val rfl (wanted_none rfl) (by first | (go_simp; done) | (go_simp; rfl) | (simp [execOp, Act.eval, go_sem, *]; done) | (simp [execOp, Act.eval, go_sem, *]; rfl)) rfl (Pu.refl _)
          · intro a' w' hs hp he
            try simp [Is, Region.binds] at he
            exact op_val rfl (wanted_none rfl) (by first | (go_simp; done) | (go_simp; rfl) | (simp [execOp, Act.eval, go_sem, *]; done) | (simp [execOp, Act.eval, go_sem, *]; rfl)) rfl (Pu.refl _)
          · intro a' w' hs hp he
            have e3 := hs 3 (by kernel_rfl)
            try simp [Is, Region.binds] at he
            exact op_val rfl (wanted_none rfl) (by first | (go_simp; done) | (go_simp; rfl) | (simp [execOp, Act.eval, go_sem, *]; done) | (simp [execOp, Act.eval, go_sem, *]; rfl)) rfl (Pu.refl _)
          · intro a' w' hs hp he
            try simp [Is, Region.binds] at he
            have c := Row.word (hrow.pu hp) (t - 15) (by omega); exact op_val rfl (wanted_none rfl) (by first | (go_simp; done) | (go_simp; rfl)) rfl (Pu.refl _)
          · intro a' w' hs hp he
            have e4 := hs 4 (by kernel_rfl)
            try simp [Is, Region.binds] at he
            exact op_val rfl (wanted_none rfl) (by first | (go_simp; done) | (go_simp; rfl) | (simp [execOp, Act.eval, go_sem, *]; done) | (simp [execOp, Act.eval, go_sem, *]; rfl)) rfl (Pu.refl _)
          · intro a' w' hs hp he
            try simp [Is, Region.binds] at he
            exact op_val rfl (wanted_none rfl) (by first | (go_simp; done) | (go_simp; rfl) | (simp [execOp, Act.eval, go_sem, *]; done) | (simp [execOp, Act.eval, go_sem, *]; rfl)) rfl (Pu.refl _)
          · intro a' w' hs hp he
            have e3 := hs 3 (by kernel_rfl)
            try simp [Is, Region.binds] at he
            exact op_val rfl (wanted_none rfl) (by first | (go_simp; done) | (go_simp; rfl) | (simp [execOp, Act.eval, go_sem, *]; done) | (simp [execOp, Act.eval, go_sem, *]; rfl)) rfl (Pu.refl _)
          · intro a' w' hs hp he
            try simp [Is, Region.binds] at he
            have c := Row.word (hrow.pu hp) (t - 2) (by omega); exact op_val rfl (wanted_none rfl) (by first | (go_simp; done) | (go_simp; rfl)) rfl (Pu.refl _)
          · intro a' w' hs hp he
            try simp [Is, Region.binds] at he
            exact op_val rfl (wanted_none rfl) (by first | (go_simp; done) | (go_simp; rfl) | (simp [execOp, Act.eval, go_sem, *]; done) | (simp [execOp, Act.eval, go_sem, *]; rfl)) rfl (Pu.refl _)
          · intro a' w' hs hp he
            try simp [Is, Region.binds] at he
            exact op_val rfl (wanted_none rfl) (by first | (go_simp; done) | (go_simp; rfl) | (simp [execOp, Act.eval, go_sem, *]; done) | (simp [execOp, Act.eval, go_sem, *]; rfl)) rfl (Pu.refl _)
        case hend =>
          intro a' w' hdef hsz hs hp hall
          obtain ⟨r0, r1, r2, r3, r4, r5, r6, r7, r8, r9, -⟩ := hall
          have hA := agree_done (agree_step (agree_step (agree_step (agree_step (agree_step (agree_step (agree_step (agree_step (agree_step (agree_step (agree_init [23, 24, 25, 26, 27, 28, 29, 30, 5, 6] hsz hs (by kernel_rfl)) r0) r1) r2) r3) r4) r5) r6) r7) r8) r9)
          have ha := act_of hA hdef
          rw [ha]
          clear ha hA hs hsz hdef r0 r1 r2 r3 r4 r5 r6 r7 r8 r9 
          (try simp only [List.setIfInBounds_toArray])
          (try dsimp only [List.set_cons_zero, List.set_cons_succ])
          (try simp only [Exit.then])
          replace hrow := hrow.pu hp
          replace hres := hres.pu hp
          replace hbel := hbel.trans (Below.mono hp hbel.size)
          clear hp
          go_wp2_with fail
          apply region_last (n := 29) (hn := by kernel_rfl) (hlast := rfl) (hU := by kernel_rfl) (Φs := (Is _ :: Is _ :: Is _ :: Is _ :: Is _ :: Is _ :: Is _ :: Is _ :: Is _ :: Is _ :: Is _ :: Is _ :: Is _ :: Is _ :: Is _ :: Is _ :: Is _ :: Is _ :: Is _ :: Is _ :: Is _ :: Is _ :: Is _ :: Is _ :: Is _ :: Is _ :: Is _ :: Is _ :: Is _ :: [])) (hm := by kernel_rfl) (hE := by kernel_rfl) (hD := by kernel_rfl) (hsize := by kernel_rfl)
          case hop =>
            refine ⟨?_, ?_, ?_, ?_, ?_, ?_, ?_, ?_, ?_, ?_, ?_, ?_, ?_, ?_, ?_, ?_, ?_, ?_, ?_, ?_, ?_, ?_, ?_, ?_, ?_, ?_, ?_, ?_, ?_, trivial⟩
            · intro a' w' hs hp he
              have e4 := hs 4 (by kernel_rfl)
              try simp [Is, Region.binds] at he
              exact op_val rfl (wanted_none rfl) (by first | (go_simp; done) | (go_simp; rfl) | (simp [execOp, Act.eval, go_sem, *]; done) | (simp [execOp, Act.eval, go_sem, *]; rfl)) rfl (Pu.refl _)
            · intro a' w' hs hp he
              have e4 := hs 4 (by kernel_rfl)
              try simp [Is, Region.binds] at he
              exact op_val rfl (wanted_none rfl) (by first | (go_simp; done) | (go_simp; rfl) | (simp [execOp, Act.eval, go_sem, *]; done) | (simp [execOp, Act.eval, go_sem, *]; rfl)) rfl (Pu.refl _)
            · intro a' w' hs hp he
              try simp [Is, Region.binds] at he
              exact op_val rfl (wanted_none rfl) (by first | (go_simp; done) | (go_simp; rfl) | (simp [execOp, Act.eval, go_sem, *]; done) | (simp [execOp, Act.eval, go_sem, *]; rfl)) rfl (Pu.refl _)
            · intro a' w' hs hp he
              have e3 := hs 3 (by kernel_rfl)
              try simp [Is, Region.binds] at he
              exact op_val rfl (wanted_none rfl) (by first | (go_simp; done) | (go_simp; rfl) | (simp [execOp, Act.eval, go_sem, *]; done) | (simp [execOp, Act.eval, go_sem, *]; rfl)) rfl (Pu.refl _)
            · intro a' w' hs hp he
              try simp [Is, Region.binds] at he
              have c := Row.word (hrow.pu hp) (t - 16) (by omega); exact op_val rfl (wanted_none rfl) (by first | (go_simp; done) | (go_simp; rfl)) rfl (Pu.refl _)
            · intro a' w' hs hp he
              have e5 := hs 5 (by kernel_rfl)
              try simp [Is, Region.binds] at he
              exact op_val rfl (wanted_none rfl) (by first | (go_simp; done) | (go_simp; rfl) | (simp [execOp, Act.eval, go_sem, *]; done) | (simp [execOp, Act.eval, go_sem, *]; rfl)) rfl (Pu.refl _)
            · intro a' w' hs hp he
              try simp [Is, Region.binds] at he
              exact op_callV (right _ 7 (by decide) (by decide) _) rfl (wanted_none rfl) (by first | (go_simp; done) | (go_simp; rfl)) rfl
            · intro a' w' hs hp he
              have e5 := hs 5 (by kernel_rfl)
              try simp [Is, Region.binds] at he
              exact op_val rfl (wanted_none rfl) (by first | (go_simp; done) | (go_simp; rfl) | (simp [execOp, Act.eval, go_sem, *]; done) | (simp [execOp, Act.eval, go_sem, *]; rfl)) rfl (Pu.refl _)
            · intro a' w' hs hp he
              try simp [Is, Region.binds] at he
              exact op_callV (right _ 18 (by decide) (by decide) _) rfl (wanted_none rfl) (by first | (go_simp; done) | (go_simp; rfl)) rfl
            · intro a' w' hs hp he
              try simp [Is, Region.binds] at he
              exact op_val rfl (wanted_none rfl) (by first | (go_simp; done) | (go_simp; rfl) | (simp [execOp, Act.eval, go_sem, *]; done) | (simp [execOp, Act.eval, go_sem, *]; rfl)) rfl (Pu.refl _)
            · intro a' w' hs hp he
              have e5 := hs 5 (by kernel_rfl)
              try simp [Is, Region.binds] at he
              exact op_val rfl (wanted_none rfl) (by first | (go_simp; done) | (go_simp; rfl) | (simp [execOp, Act.eval, go_sem, *]; done) | (simp [execOp, Act.eval, go_sem, *]; rfl)) rfl (Pu.refl _)
            · intro a' w' hs hp he
              try simp [Is, Region.binds] at he
              exact op_val rfl (wanted_none rfl) (by first | (go_simp; done) | (go_simp; rfl) | (simp [execOp, Act.eval, go_sem, *]; done) | (simp [execOp, Act.eval, go_sem, *]; rfl)) rfl (Pu.refl _)
            · intro a' w' hs hp he
              try simp [Is, Region.binds] at he
              exact op_val rfl (wanted_none rfl) (by first | (go_simp; done) | (go_simp; rfl) | (simp [execOp, Act.eval, go_sem, *]; done) | (simp [execOp, Act.eval, go_sem, *]; rfl)) rfl (Pu.refl _)
            · intro a' w' hs hp he
              try simp [Is, Region.binds] at he
              exact op_val rfl (wanted_none rfl) (by first | (go_simp; done) | (go_simp; rfl) | (simp [execOp, Act.eval, go_sem, *]; done) | (simp [execOp, Act.eval, go_sem, *]; rfl)) rfl (Pu.refl _)
            · intro a' w' hs hp he
              have e4 := hs 4 (by kernel_rfl)
              try simp [Is, Region.binds] at he
              exact op_val rfl (wanted_none rfl) (by first | (go_simp; done) | (go_simp; rfl) | (simp [execOp, Act.eval, go_sem, *]; done) | (simp [execOp, Act.eval, go_sem, *]; rfl)) rfl (Pu.refl _)
            · intro a' w' hs hp he
              try simp [Is, Region.binds] at he
              exact op_val rfl (wanted_none rfl) (by first | (go_simp; done) | (go_simp; rfl) | (simp [execOp, Act.eval, go_sem, *]; done) | (simp [execOp, Act.eval, go_sem, *]; rfl)) rfl (Pu.refl _)
            · intro a' w' hs hp he
              have e3 := hs 3 (by kernel_rfl)
              try simp [Is, Region.binds] at he
              exact op_val rfl (wanted_none rfl) (by first | (go_simp; done) | (go_simp; rfl) | (simp [execOp, Act.eval, go_sem, *]; done) | (simp [execOp, Act.eval, go_sem, *]; rfl)) rfl (Pu.refl _)
            · intro a' w' hs hp he
              try simp [Is, Region.binds] at he
              have c := Row.word (hrow.pu hp) (t - 7) (by omega); exact op_val rfl (wanted_none rfl) (by first | (go_simp; done) | (go_simp; rfl)) rfl (Pu.refl _)
            · intro a' w' hs hp he
              try simp [Is, Region.binds] at he
              exact op_val rfl (wanted_none rfl) (by first | (go_simp; done) | (go_simp; rfl) | (simp [execOp, Act.eval, go_sem, *]; done) | (simp [execOp, Act.eval, go_sem, *]; rfl)) rfl (Pu.refl _)
            · intro a' w' hs hp he
              have e6 := hs 6 (by kernel_rfl)
              try simp [Is, Region.binds] at he
              exact op_val rfl (wanted_none rfl) (by first | (go_simp; done) | (go_simp; rfl) | (simp [execOp, Act.eval, go_sem, *]; done) | (simp [execOp, Act.eval, go_sem, *]; rfl)) rfl (Pu.refl _)
            · intro a' w' hs hp he
              try simp [Is, Region.binds] at he
              exact op_callV (right _ 17 (by decide) (by decide) _) rfl (wanted_none rfl) (by first | (go_simp; done) | (go_simp; rfl)) rfl
            · intro a' w' hs hp he
              have e6 := hs 6 (by kernel_rfl)
              try simp [Is, Region.binds] at he
              exact op_val rfl (wanted_none rfl) (by first | (go_simp; done) | (go_simp; rfl) | (simp [execOp, Act.eval, go_sem, *]; done) | (simp [execOp, Act.eval, go_sem, *]; rfl)) rfl (Pu.refl _)
            · intro a' w' hs hp he
              try simp [Is, Region.binds] at he
              exact op_callV (right _ 19 (by decide) (by decide) _) rfl (wanted_none rfl) (by first | (go_simp; done) | (go_simp; rfl)) rfl
            · intro a' w' hs hp he
              try simp [Is, Region.binds] at he
              exact op_val rfl (wanted_none rfl) (by first | (go_simp; done) | (go_simp; rfl) | (simp [execOp, Act.eval, go_sem, *]; done) | (simp [execOp, Act.eval, go_sem, *]; rfl)) rfl (Pu.refl _)
            · intro a' w' hs hp he
              have e6 := hs 6 (by kernel_rfl)
              try simp [Is, Region.binds] at he
              exact op_val rfl (wanted_none rfl) (by first | (go_simp; done) | (go_simp; rfl) | (simp [execOp, Act.eval, go_sem, *]; done) | (simp [execOp, Act.eval, go_sem, *]; rfl)) rfl (Pu.refl _)
            · intro a' w' hs hp he
              try simp [Is, Region.binds] at he
              exact op_val rfl (wanted_none rfl) (by first | (go_simp; done) | (go_simp; rfl) | (simp [execOp, Act.eval, go_sem, *]; done) | (simp [execOp, Act.eval, go_sem, *]; rfl)) rfl (Pu.refl _)
            · intro a' w' hs hp he
              try simp [Is, Region.binds] at he
              exact op_val rfl (wanted_none rfl) (by first | (go_simp; done) | (go_simp; rfl) | (simp [execOp, Act.eval, go_sem, *]; done) | (simp [execOp, Act.eval, go_sem, *]; rfl)) rfl (Pu.refl _)
            · intro a' w' hs hp he
              try simp [Is, Region.binds] at he
              exact op_val rfl (wanted_none rfl) (by first | (go_simp; done) | (go_simp; rfl) | (simp [execOp, Act.eval, go_sem, *]; done) | (simp [execOp, Act.eval, go_sem, *]; rfl)) rfl (Pu.refl _)
            · intro a' w' hs hp he
              have e3 := hs 3 (by kernel_rfl)
              try simp [Is, Region.binds] at he
              exact op_val rfl (wanted_none rfl) (by first | (go_simp; done) | (go_simp; rfl) | (simp [execOp, Act.eval, go_sem, *]; done) | (simp [execOp, Act.eval, go_sem, *]; rfl)) rfl (Pu.refl _)
          case hend =>
            intro a' w' hdef hsz hs hp hall
            obtain ⟨r0, r1, r2, r3, r4, r5, r6, r7, r8, r9, r10, r11, r12, r13, r14, r15, r16, r17, r18, r19, r20, r21, r22, r23, r24, r25, r26, r27, r28, -⟩ := hall
            have hA := agree_done (agree_step (agree_step (agree_step (agree_step (agree_step (agree_step (agree_step (agree_step (agree_step (agree_step (agree_step (agree_step (agree_step (agree_step (agree_step (agree_step (agree_step (agree_step (agree_step (agree_step (agree_step (agree_step (agree_step (agree_step (agree_step (agree_step (agree_step (agree_step (agree_step (agree_init [31, 32, 33, 34, 35, 36, 37, 38, 39, 40, 41, 42, 43, 44, 45, 46, 47, 48, 49, 50, 51, 52, 53, 54, 55, 56, 57, 58, 59] hsz hs (by kernel_rfl)) r0) r1) r2) r3) r4) r5) r6) r7) r8) r9) r10) r11) r12) r13) r14) r15) r16) r17) r18) r19) r20) r21) r22) r23) r24) r25) r26) r27) r28)
            have ha := act_of hA hdef
            rw [ha]
            clear ha hA hs hsz hdef r0 r1 r2 r3 r4 r5 r6 r7 r8 r9 r10 r11 r12 r13 r14 r15 r16 r17 r18 r19 r20 r21 r22 r23 r24 r25 r26 r27 r28 
            (try simp only [List.setIfInBounds_toArray])
            (try dsimp only [List.set_cons_zero, List.set_cons_succ])
            (try simp only [Exit.then])
            have hc := Row.word (hrow.pu hp) t (by omega); have hf := (hrow.pu hp).frozen t (by rw [vs_length]; omega)
            refine op_done rfl (wanted_none rfl) (by first | (go_simp; done) | (go_simp; rfl)) ?_
            (try simp only [Exit.inBlock, Exit.then])
            go_wp2_with fail
            go_roundw
            case rel =>
              replace hrow := hrow.pu hp
              replace hres := hres.pu hp
              replace hbel := hbel.trans (Below.mono hp hbel.size)
              refine ⟨t + 1, by omega, by go_num, hres.setOther _ _ (by simp), ?_, hbel.setCell (by simp) _⟩
              have := hrow.set t (V (nextW (sched b t) t))
              rw [vs_set, HN.out] at this
              have hx := fun n (hn : n < t) => schedArr_get b t n hn
              simp only [nextW, ← hx (t - 15) (by omega), ← hx (t - 2) (by omega), ← hx (t - 16) (by omega), ← hx (t - 7) (by omega), List.getD_eq_getElem?_getD] at this
              first | exact this | (rw [← sched_val] at this; exact this)
            case measure => simp [intOf]; omega
    · obtain rfl : t = 64 := by omega
      have hi : (Try.prog.info? 78).map (·.size) = some 64 := by kernel_rfl
      have hl64 : (vs (sched b 64)).length = 64 := by rw [vs_length, sched_length]
      have harr : schedArr b 64 = sched b 64 := by simp [schedArr]
      rw [harr] at hrow
      obtain ⟨l, hll⟩ : ∃ l, l = vs (sched b 64) := ⟨_, rfl⟩
      rw [← hll] at hrow hl64
      have hone : l.all (·.oneCell') = true := by rw [hll]; simp [vs, Value.oneCell']
      have htk : ((l.drop 0).take 64) = l := by rw [List.drop_zero, List.take_of_length_le (by omega)]
      have HLL := Lib.hid hll
      clear hll harr
      go_wp2_with (first | (refine wpList_load_part rfl 78 (.tmp 3) rfl (w.heap.size+1) 0 64 (by rfl) hrow Try.underlying78 rfl hi (by omega) ?_; rw [htk]) | (refine wpList_store_part rfl 78 (.tmp 2) (.tmp 61) rfl w.heap.size 0 l (by rfl) (by rfl) hres (by rw [hl64]; exact hi) (by rw [vs_length]; simp [schedArr_length]; omega) hone ?_; intro w1 hr1 hch))
      have hrl := hr1.load (P := Try.prog) 78 0 64 Try.underlying78 rfl hi (by rw [splice_length, vs_length]; simp [schedArr_length])
      rw [splice_all (by rw [hl64, vs_length]; simp [schedArr_length]), htk] at hrl
      (try simp only [Exit.inBlock, Exit.then])
      refine bodyPost_ret (results_cell_eq rfl _ _ rfl hrl) rfl ?_
      exact ⟨l, HLL.out, rfl, hch.below hbel (Nat.le_refl _)⟩
end Go.Proofs.Ytdjbhbefghihcaa
