/- Package stream: may a key and a nonce be, a block, bytes hidden. -/
import Derived.Test.YtdjbhbefghihcaaBlock
import Derived.Test.YtdjbhbefghihcaaSame
import Derived.Test.YtdjbhbefghihcaaRep
import Derived.Test.YtdjbhbefghihcaaRegionH
set_option linter.unusedSimpArgs false
set_option linter.unusedVariables false
namespace Go.Proofs.Ytdjbhbefghihcaa
open Go.RowKit Go.Esc
theorem bs_nil : ByteArray.empty = bs [] := rfl
theorem Bld.but {g : Nat} {w w' : World} {b : Nat} {l : Bs} (h : Bld w b l) (hp : But g w w') (hg : g < b) : Bld w' b l := by
  have key : ∀ p, Lib.BuilderAt 98 5 b b p (cells l) w → Lib.BuilderAt 98 5 b b p (cells l) w' := by
    intro p hb
    have hlt := hb.lt
    obtain ⟨hB, v, hh, hown, hne⟩ := hb
    refine ⟨hB, v, by rw [hp.block b hlt (by omega)]; exact hh, ?_, hne⟩
    refine hown.kept (row := some g) ⟨hp.os, hp.tape, hp.output, hp.size, fun j hj hne => hp.block j hj (fun e => hne (by rw [e]))⟩ ?_
    cases hv : v.ownBlock with
    | none => exact .inl rfl
    | some k =>
      right
      have := (hown.lt k hv).1
      intro e; cases e; omega
  rcases h with h | h
  · exact .inl (key _ h)
  · exact .inr (key _ h)
theorem fineL_yes {key nonce : Bs} (hk : key.length = 32) (hn : nonce.length = 12) : fineL key nonce = true := by simp [fineL, hk, hn]
theorem fineL_of {key nonce : Bs} (h : fineL key nonce = true) : key.length = 32 ∧ nonce.length = 12 := by simpa [fineL] using h
theorem fineL_no {key nonce : Bs} (h : fineL key nonce = false) : key.length ≠ 32 ∨ (key.length = 32 ∧ nonce.length ≠ 12) := by
  simp [fineL] at h
  by_cases hk : key.length = 32
  · exact .inr ⟨hk, h hk⟩
  · exact .inl hk
theorem rightYes (key nonce : Bs) (h : fineL key nonce = true) (w : World) :
    Calls Try.prog 112 #[S key, S nonce] w fun e w' => e = .returned (.bool true) ∧ w' = w := by
  obtain ⟨hk, hn⟩ := fineL_of h
  clear h
  have h1 : (key.length : Int) = 32 := by omega
  have h2 : (nonce.length : Int) = 12 := by omega
  go_enter Try.func112, Try.ntmps112
  go_wp2_with fail
  go_ret
  exact ⟨rfl, rfl⟩
theorem rightNo (key nonce : Bs) (h : fineL key nonce = false) (w : World) :
    Calls Try.prog 112 #[S key, S nonce] w fun e w' => e = .returned (.bool false) ∧ w' = w := by
  rcases fineL_no h with hk | ⟨hk, hn⟩
  · clear h
    have h1 : ((key.length : Int) == 32) = false := by simp; omega
    have h2 : ¬ ((key.length : Int) = 32) := by omega
    go_enter Try.func112, Try.ntmps112
    go_wp2_with fail
    go_ret
    exact ⟨rfl, rfl⟩
  · clear h
    have h1 : (key.length : Int) = 32 := by omega
    have h2 : ¬ ((nonce.length : Int) = 12) := by omega
    have h3 : ((nonce.length : Int) == 12) = false := by simp; omega
    go_enter Try.func112, Try.ntmps112
    go_wp2_with fail
    go_ret
    exact ⟨rfl, rfl⟩
theorem streamBlock (key nonce : Bs) (ctr : Nat) (h : fineL key nonce = true) (hc : ctr < 4294967296) (w : World) :
    Calls Try.prog 116 #[S key, .int .u32 (ctr : Int), S nonce] w fun e w' => e = .returned (.tuple #[S (blockL key ctr nonce), .bool true]) ∧ Pu w w' := by
  have hR := fun w => rightYes key nonce h w
  obtain ⟨hk, hn⟩ := fineL_of h
  have hB := fun w => block key nonce ctr hk hn hc w
  obtain ⟨b, hb⟩ : ∃ b, b = blockL key ctr nonce := ⟨_, rfl⟩
  rw [← hb] at hB
  have HR := Lib.hid hR
  have HB := Lib.hid hB
  have HBB := Lib.hid hb
  clear h hR hB hb hk hn
  go_enter Try.func116, Try.ntmps116
  go_wp2_with (first
    | (go_at_call 112; refine (HR.out _).mono ?_; rintro e w1 ⟨rfl, hw1⟩; subst w1)
    | (go_at_call 114; refine (HB.out _).mono ?_; rintro e w2 ⟨rfl, hp2⟩))
  go_ret2
  exact ⟨by rw [HBB.out]; rfl, hp2⟩
theorem streamBlock_no (key nonce : Bs) (ctr : Nat) (h : fineL key nonce = false) (w : World) :
    Calls Try.prog 116 #[S key, .int .u32 (ctr : Int), S nonce] w fun e w' => e = .returned (.tuple #[S [], .bool false]) ∧ w' = w := by
  have hR := fun w => rightNo key nonce h w
  have HR := Lib.hid hR
  clear h hR
  go_enter Try.func116, Try.ntmps116
  go_wp2_with (go_at_call 112; refine (HR.out _).mono ?_; rintro e w1 ⟨rfl, hw1⟩; subst w1)
  go_ret2
  exact ⟨rfl, rfl⟩
set_option maxRecDepth 100000 in
theorem store32 (a : Addr) (y : Int) (u : Value) (w : World) (hc : w.cell? a = some u) (hz : w.frozen? a = false) :
    Calls Try.prog 113 #[.pointer (some a), .int .u32 y] w fun e w' => e = .returned (.tuple #[]) ∧ w' = w.setCell a (.int .u32 y) := by
  have hst := run_call_store (P := Try.prog) Try.func141 (by kernel_rfl) (by kernel_rfl) (by kernel_rfl) (by kernel_rfl) (k := .u32) (y := y) hc hz
  go_enter Try.func113, Try.ntmps113
  go_wp2_with fail
  go_end0
  exact ⟨rfl, rfl⟩
set_option maxRecDepth 100000 in
theorem add32 (a : Addr) (x : Int) (w : World) (hx : 0 ≤ x ∧ x < 1000000000) (hc : w.cell? a = some (.int .u32 x)) (hz : w.frozen? a = false) :
    Calls Try.prog 115 #[.pointer (some a), .int .u32 1] w fun e w' => e = .returned (.int .u32 (x + 1)) ∧ w' = w.setCell a (.int .u32 (x + 1)) := by
  have hs : (Op.intArith .add .u32 x 1).run Try.prog w = .ok (.int .u32 (x + 1)) w := by
    have : IntKind.u32.wrap (x + 1) = x + 1 := by rw [IntKind.wrap_u32]; omega
    show (Sem.pure (Value.int .u32 (IntKind.u32.wrap (x + 1)))).run _ w = _
    rw [this]; rfl
  have hadd := run_call_add (P := Try.prog) Try.func145 (by kernel_rfl) (by kernel_rfl) (by kernel_rfl) .u32 (by kernel_rfl) (y := 1) hc hz hs
  go_enter Try.func115, Try.ntmps115
  go_wp2_with fail
  go_ret
  exact ⟨rfl, rfl⟩
theorem streamXor_no (key nonce b : Bs) (ctr : Nat) (h : fineL key nonce = false) (w : World) :
    Calls Try.prog 87 #[S key, .int .u32 (ctr : Int), S nonce, S b] w fun e w' => e = .returned (.tuple #[S [], .bool false]) ∧ w' = w := by
  have hR := fun w => rightNo key nonce h w
  have HR := Lib.hid hR
  clear h hR
  go_enter Try.func87, Try.ntmps87
  go_wp2_with (go_at_call 112; refine (HR.out _).mono ?_; rintro e w1 ⟨rfl, hw1⟩; subst w1)
  go_ret2
  exact ⟨rfl, rfl⟩
set_option maxRecDepth 100000 in
set_option maxHeartbeats 3200000 in
theorem streamXor (key nonce b : Bs) (ctr : Nat) (h : fineL key nonce = true) (hc : ctr ≤ 1000) (hb : b.length ≤ 100000) (w : World) :
    Calls Try.prog 87 #[S key, .int .u32 (ctr : Int), S nonce, S b] w fun e w' => e = .returned (.tuple #[S (streamL key ctr nonce b), .bool true]) ∧ Pu w w' := by
  have hR := fun w => rightYes key nonce h w
  obtain ⟨hk, hn⟩ := fineL_of h
  obtain ⟨tot, htot⟩ : ∃ t, t = streamL key ctr nonce b := ⟨_, rfl⟩
  have HR := Lib.hid hR
  have HTOT := Lib.hid htot
  clear h hR htot
  have kem : (ByteArray.mk #[]) = bs [] := rfl
  go_enter Try.func87, Try.ntmps87
  go_wp2_with (first
    | (go_at_call 112; refine (HR.out _).mono ?_; rintro e w1 ⟨rfl, hw1⟩; subst w1
       have hrn0 := Row.newAt w w.heap.size #[.int .u32 0] 123 (xs := [.int .u32 0]) rfl rfl)
    | (go_at_call 113; refine (store32 ⟨w.heap.size, 0, none⟩ (ctr : Int) (.int .u32 0) _ (hrn0.cell 0 (by simp)) (hrn0.frozen 0 (by simp))).mono ?_; rintro e w2 ⟨rfl, hw2⟩; subst w2))
  have hw0 : ((w.alloc (.cells #[.int .u32 (ctr : Int)] 123)).alloc (.cells #[.pointer none, .slice none 0 0] 98)).heap.size = w.heap.size + 2 := by simp
  have hbd0 : Bld ((w.alloc (.cells #[.int .u32 (ctr : Int)] 123)).alloc (.cells #[.pointer none, .slice none 0 0] 98)) (w.heap.size + 1) [] := by
    have h5 := Bld.new (w.alloc (.cells #[.int .u32 (ctr : Int)] 123)) _ _ _ rfl rfl rfl
    rwa [show (w.alloc (.cells #[.int .u32 (ctr : Int)] 123)).heap.size = w.heap.size + 1 by simp] at h5
  go_loopw [3] (fun v wr => ∃ (cur out : Bs) (c : Nat), v = S cur ∧ out ++ streamL key c nonce cur = tot ∧ out.length + cur.length ≤ 100000 ∧ c + out.length + cur.length ≤ 200000 + out.length ∧ Row wr w.heap.size 123 [.int .u32 (c : Int)] ∧ Bld wr (w.heap.size + 1) out ∧ Below w.heap.size w wr) (fun v _ => match v with | .string s => s.size | _ => 0)
  case atStart => exact ⟨b, [], ctr, rfl, by rw [List.nil_append]; exact HTOT.out.symm, by simp; omega, by simp; omega, (Row.newAt _ _ _ _ rfl rfl).alloc _, hbd0, Pu.alloc (Pu.alloc (Pu.refl w) _) _⟩
  case round =>
    clear hbd0 hw0
    obtain ⟨cur, out, c, rfl, hps, hl1, hl2, hrn, hbd, hbel⟩ := hrel
    have hbs0 := hbel.size
    by_cases h0 : 0 < cur.length
    · have h0' : (0 : Int) < cur.length := by omega
      rw [streamL_step _ _ _ _ h0] at hps
      by_cases h64 : 64 ≤ cur.length
      · have q1 : (64 : Int) ≤ cur.length := by omega
        have q2 : decide ((cur.length : Int) < 64) = false := by simp; omega
        have q3 : ¬ ((cur.length : Int) < 64) := by omega
        have q4 : min (cur.length : Int) 64 = 64 := by omega
        · obtain ⟨p, hp⟩ : ∃ p, p = cur.take 64 := ⟨_, rfl⟩
          have hpe : p.length = 64 := by rw [hp]; simp; omega
          have hpt : cur.take 64 = p := hp.symm
          rw [← hp] at hps
          clear hp
          obtain ⟨blk, hblk⟩ : ∃ l, l = blockL key c nonce := ⟨_, rfl⟩
          have hblkl : blk.length = 64 := by rw [hblk, blockL_length]
          obtain ⟨xo, hxo⟩ : ∃ l, l = xorL p blk := ⟨_, rfl⟩
          have hxol : xo.length ≤ p.length := by rw [hxo, xorL_length]; omega
          have hBl := fun w => block key nonce c hk hn (by omega) w
          have hXo := fun w => xor p blk (.inl (by omega)) w
          rw [← hblk] at hBl
          rw [← hxo] at hXo
          have hps2 : (out ++ xo) ++ streamL key (c+1) nonce (cur.drop 64) = tot := by rw [hxo, hblk, List.append_assoc]; exact hps
          have hcell := hrn.cell 0 (by simp)
          have hfz := hrn.frozen 0 (by simp)
          obtain ⟨c1, hc1⟩ : ∃ c1 : Nat, c1 = c + 1 := ⟨_, rfl⟩
          have e1 : (c1 : Int) - 1 = c := by omega
          have e1w : IntKind.u32.wrap (c : Int) = c := by rw [IntKind.wrap_u32]; omega
          have e2 : (c : Int) + 1 = c1 := by omega
          have HBL := Lib.hid hBl
          have HXO := Lib.hid hXo
          have HPS := Lib.hid hps2
          have HC1 := Lib.hid hc1
          clear hBl hXo hps2 hblk hxo hps hcell hfz hc1
          have cA : ∀ args w, (callFunc 115 args).run Try.prog w = .ok (.enter 115 args) w := fun args w => run_callFunc_body Try.func115 (by kernel_rfl) (by kernel_rfl) args w
          have cB : ∀ args w, (callFunc 114 args).run Try.prog w = .ok (.enter 114 args) w := fun args w => run_callFunc_body Try.func114 (by kernel_rfl) (by kernel_rfl) args w
          have cX : ∀ args w, (callFunc 98 args).run Try.prog w = .ok (.enter 98 args) w := fun args w => run_callFunc_body Try.func98 (by kernel_rfl) (by kernel_rfl) args w
          have cW : ∀ args w, (callFunc 85 args).run Try.prog w = .ok (.enter 85 args) w := fun args w => run_callFunc_body Try.func85 (by kernel_rfl) (by kernel_rfl) args w
          go_wp2_with fail
          apply region_writer (g := w.heap.size) (n := 9) (hn := by kernel_rfl) (hlast := rfl) (hU := by kernel_rfl) (Φ1 := (Is _ :: Is _ :: Is _ :: Is _ :: [])) (Φm := IsAt (.int .u32 (c1 : Int)) w.heap.size 123 [.int .u32 (c1 : Int)]) (Φ2 := (Is _ :: Is _ :: Is _ :: Is _ :: [])) (hm := by kernel_rfl) (hE := by kernel_rfl) (hD := by kernel_rfl) (hsize := by kernel_rfl)
          case hop =>
            refine ⟨?_, ?_, ?_, ?_, ?_, ?_, ?_, ?_, ?_, trivial⟩
            · intro a' w' hs hp he
              have hp : But w.heap.size _ w' := hp
              have e3 := hs 3 (by kernel_rfl)
              try simp [Is, Region.binds] at he
              exact op_val rfl (wanted_none rfl) (by first | (go_simp; done) | (go_simp; rfl) | (simp [execOp, Act.eval, go_sem, *]; done) | (simp [execOp, Act.eval, go_sem, *]; rfl)) rfl (Pu.refl _)
            · intro a' w' hs hp he
              have hp : But w.heap.size _ w' := hp
              have e12 := hs 12 (by kernel_rfl)
              try simp [Is, Region.binds] at he
              exact op_val rfl (wanted_none rfl) (by first | (go_simp; done) | (go_simp; rfl) | (simp [execOp, Act.eval, go_sem, *]; done) | (simp [execOp, Act.eval, go_sem, *]; rfl)) rfl (Pu.refl _)
            · intro a' w' hs hp he
              have hp : But w.heap.size _ w' := hp
              try simp [Is, Region.binds] at he
              exact op_val rfl (wanted_none rfl) (by first | (go_simp; done) | (go_simp; rfl) | (simp [execOp, Act.eval, go_sem, *]; done) | (simp [execOp, Act.eval, go_sem, *]; rfl)) rfl (Pu.refl _)
            · intro a' w' hs hp he
              have hp : But w.heap.size _ w' := hp
              have e0 := hs 0 (by kernel_rfl)
              try simp [Is, Region.binds] at he
              exact op_val rfl (wanted_none rfl) (by first | (go_simp; done) | (go_simp; rfl) | (simp [execOp, Act.eval, go_sem, *]; done) | (simp [execOp, Act.eval, go_sem, *]; rfl)) rfl (Pu.refl _)
            · intro a' w' hs hp he
              have hp : Pu _ w' := hp
              have e10 := hs 10 (by kernel_rfl)
              try simp [Is, Region.binds] at he
              have hr := hrn.pu hp; refine op_callB rfl (wanted_none rfl) (by first | (go_simp; done) | (go_simp; rfl)) ((add32 ⟨w.heap.size, 0, none⟩ (c : Int) w' (by omega) (hr.cell 0 (by simp)) (hr.frozen 0 (by simp))).mono ?_); rintro e w5 ⟨rfl, rfl⟩; rw [e2]; exact ⟨_, rfl, ⟨rfl, hr.set 0 _⟩, But.set _ _ _⟩
            · intro a' w' hs hp he
              have hp : But w.heap.size _ w' := hp
              try simp [Is, Region.binds] at he
              obtain ⟨he5, -⟩ := he; exact op_val rfl (wanted_none rfl) (by first | (go_simp; done) | (go_simp; rfl) | (simp [execOp, Act.eval, go_sem, *]; rfl)) rfl (Pu.refl _)
            · intro a' w' hs hp he
              have hp : But w.heap.size _ w' := hp
              have e2 := hs 2 (by kernel_rfl)
              try simp [Is, Region.binds] at he
              exact op_val rfl (wanted_none rfl) (by first | (go_simp; done) | (go_simp; rfl) | (simp [execOp, Act.eval, go_sem, *]; done) | (simp [execOp, Act.eval, go_sem, *]; rfl)) rfl (Pu.refl _)
            · intro a' w' hs hp he
              have hp : But w.heap.size _ w' := hp
              try simp [Is, Region.binds] at he
              exact op_callP (HBL.out _) rfl (wanted_none rfl) (by first | (go_simp; done) | (go_simp; rfl)) (fun _ => rfl)
            · intro a' w' hs hp he
              have hp : But w.heap.size _ w' := hp
              try simp [Is, Region.binds] at he
              exact op_callP (HXO.out _) rfl (wanted_none rfl) (by first | (go_simp; done) | (go_simp; rfl)) (fun _ => rfl)
          case hend =>
            intro a' w' hdef hsz hs hp hall
            obtain ⟨r0, r1, r2, r3, r4, r5, r6, r7, r8, -⟩ := hall
            obtain ⟨rv4, row4⟩ := r4
            have hA := agree_done (agree_step (agree_step (agree_step (agree_step (agree_step (agree_step (agree_step (agree_step (agree_step (agree_initL [25, 26, 27, 28, 29, 30, 31, 32, 33] hsz hs (by kernel_rfl)) r0) r1) r2) r3) rv4) r5) r6) r7) r8)
            have ha := act_of hA hdef
            rw [ha]
            clear ha hA hs hsz hdef r0 r1 r2 r3 r5 r6 r7 r8 rv4
            (try simp only [List.setIfInBounds_toArray])
            (try dsimp only [List.set_cons_zero, List.set_cons_succ])
            (try simp only [Exit.then])
            refine op_callK rfl (wanted_none rfl) (by first | (go_simp; done) | (go_simp; rfl)) ((write (w.heap.size + 1) out xo w' (hbd.but hp (by omega)) (by omega)).mono ?_); rintro e w5 ⟨rfl, hbd5, hb5⟩; refine ⟨_, rfl, ?_⟩
            (try simp only [Exit.inBlock, Exit.then])
            have hbs := hbel.size
            have hbel5 := (But.below hbel hp (Nat.le_refl _) hbs).trans (Below.mono hb5 (by omega))
            have hrn5 := row4.below hb5 (by omega)
            clear hrn hbd hbel hp row4 hb5 hbs
            go_wp2_with fail
            go_roundw
            case rel =>
              have h9 := HC1.out
              refine ⟨cur.drop 64, out ++ xo, c + 1, rfl, HPS.out, by simp <;> omega, by simp <;> omega, ?_, hbd5, hbel5⟩
              rw [← h9]; exact hrn5
            case measure => simp; omega
      · have q1 : (cur.length : Int) < 64 := by omega
        have q4 : min (cur.length : Int) 64 = cur.length := by omega
        · obtain ⟨p, hp⟩ : ∃ p, p = cur := ⟨_, rfl⟩
          rw [List.take_of_length_le (by omega), List.drop_of_length_le (by omega), ← hp] at hps
          subst hp
          obtain ⟨blk, hblk⟩ : ∃ l, l = blockL key c nonce := ⟨_, rfl⟩
          have hblkl : blk.length = 64 := by rw [hblk, blockL_length]
          obtain ⟨xo, hxo⟩ : ∃ l, l = xorL p blk := ⟨_, rfl⟩
          have hxol : xo.length ≤ p.length := by rw [hxo, xorL_length]; omega
          have hBl := fun w => block key nonce c hk hn (by omega) w
          have hXo := fun w => xor p blk (.inl (by omega)) w
          rw [← hblk] at hBl
          rw [← hxo] at hXo
          have hps2 : (out ++ xo) ++ streamL key (c+1) nonce ([]) = tot := by rw [hxo, hblk, List.append_assoc]; exact hps
          have hcell := hrn.cell 0 (by simp)
          have hfz := hrn.frozen 0 (by simp)
          obtain ⟨c1, hc1⟩ : ∃ c1 : Nat, c1 = c + 1 := ⟨_, rfl⟩
          have e1 : (c1 : Int) - 1 = c := by omega
          have e1w : IntKind.u32.wrap (c : Int) = c := by rw [IntKind.wrap_u32]; omega
          have e2 : (c : Int) + 1 = c1 := by omega
          have HBL := Lib.hid hBl
          have HXO := Lib.hid hXo
          have HPS := Lib.hid hps2
          have HC1 := Lib.hid hc1
          clear hBl hXo hps2 hblk hxo hps hcell hfz hc1
          have cA : ∀ args w, (callFunc 115 args).run Try.prog w = .ok (.enter 115 args) w := fun args w => run_callFunc_body Try.func115 (by kernel_rfl) (by kernel_rfl) args w
          have cB : ∀ args w, (callFunc 114 args).run Try.prog w = .ok (.enter 114 args) w := fun args w => run_callFunc_body Try.func114 (by kernel_rfl) (by kernel_rfl) args w
          have cX : ∀ args w, (callFunc 98 args).run Try.prog w = .ok (.enter 98 args) w := fun args w => run_callFunc_body Try.func98 (by kernel_rfl) (by kernel_rfl) args w
          have cW : ∀ args w, (callFunc 85 args).run Try.prog w = .ok (.enter 85 args) w := fun args w => run_callFunc_body Try.func85 (by kernel_rfl) (by kernel_rfl) args w
          go_wp2_with fail
          apply region_writer (g := w.heap.size) (n := 9) (hn := by kernel_rfl) (hlast := rfl) (hU := by kernel_rfl) (Φ1 := (Is _ :: Is _ :: Is _ :: Is _ :: [])) (Φm := IsAt (.int .u32 (c1 : Int)) w.heap.size 123 [.int .u32 (c1 : Int)]) (Φ2 := (Is _ :: Is _ :: Is _ :: Is _ :: [])) (hm := by kernel_rfl) (hE := by kernel_rfl) (hD := by kernel_rfl) (hsize := by kernel_rfl)
          case hop =>
            refine ⟨?_, ?_, ?_, ?_, ?_, ?_, ?_, ?_, ?_, trivial⟩
            · intro a' w' hs hp he
              have hp : But w.heap.size _ w' := hp
              have e3 := hs 3 (by kernel_rfl)
              try simp [Is, Region.binds] at he
              exact op_val rfl (wanted_none rfl) (by first | (go_simp; done) | (go_simp; rfl) | (simp [execOp, Act.eval, go_sem, *]; done) | (simp [execOp, Act.eval, go_sem, *]; rfl)) rfl (Pu.refl _)
            · intro a' w' hs hp he
              have hp : But w.heap.size _ w' := hp
              have e12 := hs 12 (by kernel_rfl)
              try simp [Is, Region.binds] at he
              exact op_val rfl (wanted_none rfl) (by first | (go_simp; done) | (go_simp; rfl) | (simp [execOp, Act.eval, go_sem, *]; done) | (simp [execOp, Act.eval, go_sem, *]; rfl)) rfl (Pu.refl _)
            · intro a' w' hs hp he
              have hp : But w.heap.size _ w' := hp
              try simp [Is, Region.binds] at he
              exact op_val rfl (wanted_none rfl) (by first | (go_simp; done) | (go_simp; rfl) | (simp [execOp, Act.eval, go_sem, *]; done) | (simp [execOp, Act.eval, go_sem, *]; rfl)) rfl (Pu.refl _)
            · intro a' w' hs hp he
              have hp : But w.heap.size _ w' := hp
              have e0 := hs 0 (by kernel_rfl)
              try simp [Is, Region.binds] at he
              exact op_val rfl (wanted_none rfl) (by first | (go_simp; done) | (go_simp; rfl) | (simp [execOp, Act.eval, go_sem, *]; done) | (simp [execOp, Act.eval, go_sem, *]; rfl)) rfl (Pu.refl _)
            · intro a' w' hs hp he
              have hp : Pu _ w' := hp
              have e10 := hs 10 (by kernel_rfl)
              try simp [Is, Region.binds] at he
              have hr := hrn.pu hp; refine op_callB rfl (wanted_none rfl) (by first | (go_simp; done) | (go_simp; rfl)) ((add32 ⟨w.heap.size, 0, none⟩ (c : Int) w' (by omega) (hr.cell 0 (by simp)) (hr.frozen 0 (by simp))).mono ?_); rintro e w5 ⟨rfl, rfl⟩; rw [e2]; exact ⟨_, rfl, ⟨rfl, hr.set 0 _⟩, But.set _ _ _⟩
            · intro a' w' hs hp he
              have hp : But w.heap.size _ w' := hp
              try simp [Is, Region.binds] at he
              obtain ⟨he5, -⟩ := he; exact op_val rfl (wanted_none rfl) (by first | (go_simp; done) | (go_simp; rfl) | (simp [execOp, Act.eval, go_sem, *]; rfl)) rfl (Pu.refl _)
            · intro a' w' hs hp he
              have hp : But w.heap.size _ w' := hp
              have e2 := hs 2 (by kernel_rfl)
              try simp [Is, Region.binds] at he
              exact op_val rfl (wanted_none rfl) (by first | (go_simp; done) | (go_simp; rfl) | (simp [execOp, Act.eval, go_sem, *]; done) | (simp [execOp, Act.eval, go_sem, *]; rfl)) rfl (Pu.refl _)
            · intro a' w' hs hp he
              have hp : But w.heap.size _ w' := hp
              try simp [Is, Region.binds] at he
              exact op_callP (HBL.out _) rfl (wanted_none rfl) (by first | (go_simp; done) | (go_simp; rfl)) (fun _ => rfl)
            · intro a' w' hs hp he
              have hp : But w.heap.size _ w' := hp
              try simp [Is, Region.binds] at he
              exact op_callP (HXO.out _) rfl (wanted_none rfl) (by first | (go_simp; done) | (go_simp; rfl)) (fun _ => rfl)
          case hend =>
            intro a' w' hdef hsz hs hp hall
            obtain ⟨r0, r1, r2, r3, r4, r5, r6, r7, r8, -⟩ := hall
            obtain ⟨rv4, row4⟩ := r4
            have hA := agree_done (agree_step (agree_step (agree_step (agree_step (agree_step (agree_step (agree_step (agree_step (agree_step (agree_initL [25, 26, 27, 28, 29, 30, 31, 32, 33] hsz hs (by kernel_rfl)) r0) r1) r2) r3) rv4) r5) r6) r7) r8)
            have ha := act_of hA hdef
            rw [ha]
            clear ha hA hs hsz hdef r0 r1 r2 r3 r5 r6 r7 r8 rv4
            (try simp only [List.setIfInBounds_toArray])
            (try dsimp only [List.set_cons_zero, List.set_cons_succ])
            (try simp only [Exit.then])
            refine op_callK rfl (wanted_none rfl) (by first | (go_simp; done) | (go_simp; rfl)) ((write (w.heap.size + 1) out xo w' (hbd.but hp (by omega)) (by omega)).mono ?_); rintro e w5 ⟨rfl, hbd5, hb5⟩; refine ⟨_, rfl, ?_⟩
            (try simp only [Exit.inBlock, Exit.then])
            have hbs := hbel.size
            have hbel5 := (But.below hbel hp (Nat.le_refl _) hbs).trans (Below.mono hb5 (by omega))
            have hrn5 := row4.below hb5 (by omega)
            clear hrn hbd hbel hp row4 hb5 hbs
            go_wp2_with fail
            go_roundw
            case rel =>
              have h9 := HC1.out
              refine ⟨[], out ++ xo, c + 1, (by first | rfl | simp [bs_nil]), HPS.out, by simp <;> omega, by simp <;> omega, ?_, hbd5, hbel5⟩
              rw [← h9]; exact hrn5
            case measure => simp; omega
    · obtain rfl : cur = [] := List.eq_nil_of_length_eq_zero (by omega)
      rw [streamL_nil, List.append_nil] at hps
      subst hps
      go_wp2_with (go_at_call 86; refine (string (w.heap.size + 1) out _ hbd).mono ?_; rintro e w4 ⟨rfl, hp4⟩)
      go_ret2
      exact ⟨by rw [← HTOT.out]; rfl, hbel.trans (Below.mono hp4 (by omega))⟩
end Go.Proofs.Ytdjbhbefghihcaa
