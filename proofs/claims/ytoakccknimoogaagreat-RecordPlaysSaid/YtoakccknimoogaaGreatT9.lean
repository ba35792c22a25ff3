/- Package stream: may a key and a nonce be, a block, bytes hidden. Limbs of 26 bits: package onetime's numbers. Limbs: sums, products, the number below the modulus, limbs of bytes. -/
import Derived.Test.YtoakccknimoogaaGreatT8
set_option linter.unusedSimpArgs false
set_option linter.unusedVariables false
set_option linter.unusedSimpArgs false
set_option linter.unusedVariables false
namespace Go.Proofs.YtoakccknimoogaaGreat
open Go.RowKit Go.Esc
theorem bs_nil : ByteArray.empty = bs [] := rfl
theorem Bld.but {g : Nat} {w w' : World} {b : Nat} {l : Bs} (h : Bld w b l) (hp : But g w w') (hg : g < b) : Bld w' b l := by
 have key : ∀ p, Lib.BuilderAt 167 5 b b p (cells l) w → Lib.BuilderAt 167 5 b b p (cells l) w' := by
  intro p hb
  have hlt := hb.lt
  obtain ⟨hB, v, hh, hown, hne⟩ := hb
  refine ⟨hB, v, by rw [hp.block b hlt (by omega)]; exact hh, ?_, hne⟩
  refine hown.kept (row := some g) ⟨hp.os, hp.tape, hp.output, hp.size, fun j hj hne => hp.block j hj (fun e => hne (by rw [e]))⟩ ?_
  cases hv : v.ownBlock with
  | none => exact .inl rfl
  | some k =>
    right
    have := (hown.lt k hv).1
    intro e; cases e; omega
 rcases h with h | h
 · exact .inl (key _ h)
 · exact .inr (key _ h)
theorem fineL_of {key nonce : Bs} (h : fineL key nonce = true) : key.length = 32 ∧ nonce.length = 12 := by simpa [fineL] using h
theorem fineL_no {key nonce : Bs} (h : fineL key nonce = false) : key.length ≠ 32 ∨ (key.length = 32 ∧ nonce.length ≠ 12) := by
 simp [fineL] at h
 by_cases hk : key.length = 32
 · exact .inr ⟨hk, h hk⟩
 · exact .inl hk
theorem rightYes (key nonce : Bs) (h : fineL key nonce = true) (w : World) :
 Calls Tryz.prog 111 #[S key, S nonce] w fun e w' => e = .returned (.bool true) ∧ w' = w := by
 obtain ⟨hk, hn⟩ := fineL_of h
 clear h
 have h1 : (key.length : Int) = 32 := by omega
 have h2 : (nonce.length : Int) = 12 := by omega
 go_enter Tryz.func111, Tryz.ntmps111
 go_wp2_with fail
 go_ret
 exact ⟨rfl, rfl⟩
theorem rightNo (key nonce : Bs) (h : fineL key nonce = false) (w : World) :
 Calls Tryz.prog 111 #[S key, S nonce] w fun e w' => e = .returned (.bool false) ∧ w' = w := by
 rcases fineL_no h with hk | ⟨hk, hn⟩
 · clear h
   have h1 : ((key.length : Int) == 32) = false := by simp; omega
   have h2 : ¬ ((key.length : Int) = 32) := by omega
   go_enter Tryz.func111, Tryz.ntmps111
   go_wp2_with fail
   go_ret
   exact ⟨rfl, rfl⟩
 · clear h
   have h1 : (key.length : Int) = 32 := by omega
   have h2 : ¬ ((nonce.length : Int) = 12) := by omega
   have h3 : ((nonce.length : Int) == 12) = false := by simp; omega
   go_enter Tryz.func111, Tryz.ntmps111
   go_wp2_with fail
   go_ret
   exact ⟨rfl, rfl⟩
theorem streamBlock (key nonce : Bs) (ctr : Nat) (h : fineL key nonce = true) (hc : ctr < 4294967296) (w : World) :
 Calls Tryz.prog 116 #[S key, .int .u32 (ctr : Int), S nonce] w fun e w' => e = .returned (.tuple #[S (blockL key ctr nonce), .bool true]) ∧ Pu w w' := by
 have hR := fun w => rightYes key nonce h w
 obtain ⟨hk, hn⟩ := fineL_of h
 have hB := fun w => block key nonce ctr hk hn hc w
 obtain ⟨b, hb⟩ : ∃ b, b = blockL key ctr nonce := ⟨_, rfl⟩
 rw [← hb] at hB
 have HR := Lib.hid hR
 have HB := Lib.hid hB
 have HBB := Lib.hid hb
 clear h hR hB hb hk hn
 go_enter Tryz.func116, Tryz.ntmps116
 go_wp2_with (first
  | (go_at_call 111; refine (HR.out _).mono ?_; rintro e w1 ⟨rfl, hw1⟩; subst w1)
  | (go_at_call 114; refine (HB.out _).mono ?_; rintro e w2 ⟨rfl, hp2⟩))
 go_ret2
 exact ⟨by rw [HBB.out]; rfl, hp2⟩
theorem streamBlock_no (key nonce : Bs) (ctr : Nat) (h : fineL key nonce = false) (w : World) :
 Calls Tryz.prog 116 #[S key, .int .u32 (ctr : Int), S nonce] w fun e w' => e = .returned (.tuple #[S [], .bool false]) ∧ w' = w := by
 have hR := fun w => rightNo key nonce h w
 have HR := Lib.hid hR
 clear h hR
 go_enter Tryz.func116, Tryz.ntmps116
 go_wp2_with (go_at_call 111; refine (HR.out _).mono ?_; rintro e w1 ⟨rfl, hw1⟩; subst w1)
 go_ret2
 exact ⟨rfl, rfl⟩
set_option maxRecDepth 100000 in
theorem store32 (a : Addr) (y : Int) (u : Value) (w : World) (hc : w.cell? a = some u) (hz : w.frozen? a = false) :
 Calls Tryz.prog 112 #[.pointer (some a), .int .u32 y] w fun e w' => e = .returned (.tuple #[]) ∧ w' = w.setCell a (.int .u32 y) := by
 have hst := run_call_store (P := Tryz.prog) Tryz.func141 (by kernel_rfl) (by kernel_rfl) (by kernel_rfl) (by kernel_rfl) (k := .u32) (y := y) hc hz
 go_enter Tryz.func112, Tryz.ntmps112
 go_wp2_with fail
 go_end0
 exact ⟨rfl, rfl⟩
set_option maxRecDepth 100000 in
theorem add32 (a : Addr) (x : Int) (w : World) (hx : 0 ≤ x ∧ x < 1000000000) (hc : w.cell? a = some (.int .u32 x)) (hz : w.frozen? a = false) :
 Calls Tryz.prog 115 #[.pointer (some a), .int .u32 1] w fun e w' => e = .returned (.int .u32 (x + 1)) ∧ w' = w.setCell a (.int .u32 (x + 1)) := by
 have hs : (Op.intArith .add .u32 x 1).run Tryz.prog w = .ok (.int .u32 (x + 1)) w := by
  have : IntKind.u32.wrap (x + 1) = x + 1 := by rw [IntKind.wrap_u32]; omega
  show (Sem.pure (Value.int .u32 (IntKind.u32.wrap (x + 1)))).run _ w = _
  rw [this]; rfl
 have hadd := run_call_add (P := Tryz.prog) Tryz.func145 (by kernel_rfl) (by kernel_rfl) (by kernel_rfl) .u32 (by kernel_rfl) (y := 1) hc hz hs
 go_enter Tryz.func115, Tryz.ntmps115
 go_wp2_with fail
 go_ret
 exact ⟨rfl, rfl⟩
theorem streamXor_no (key nonce b : Bs) (ctr : Nat) (h : fineL key nonce = false) (w : World) :
 Calls Tryz.prog 69 #[S key, .int .u32 (ctr : Int), S nonce, S b] w fun e w' => e = .returned (.tuple #[S [], .bool false]) ∧ w' = w := by
 have hR := fun w => rightNo key nonce h w
 have HR := Lib.hid hR
 clear h hR
 go_enter Tryz.func69, Tryz.ntmps69
 go_wp2_with (go_at_call 111; refine (HR.out _).mono ?_; rintro e w1 ⟨rfl, hw1⟩; subst w1)
 go_ret2
 exact ⟨rfl, rfl⟩
set_option maxRecDepth 100000 in
set_option maxHeartbeats 3200000 in
theorem streamXor (key nonce b : Bs) (ctr : Nat) (h : fineL key nonce = true) (hc : ctr ≤ 1000) (hb : b.length ≤ 100000) (w : World) :
 Calls Tryz.prog 69 #[S key, .int .u32 (ctr : Int), S nonce, S b] w fun e w' => e = .returned (.tuple #[S (streamL key ctr nonce b), .bool true]) ∧ Pu w w' := by
 have hR := fun w => rightYes key nonce h w
 obtain ⟨hk, hn⟩ := fineL_of h
 obtain ⟨tot, htot⟩ : ∃ t, t = streamL key ctr nonce b := ⟨_, rfl⟩
 have HR := Lib.hid hR
 have HTOT := Lib.hid htot
 clear h hR htot
 have kem : (ByteArray.mk #[]) = bs [] := rfl
 go_enter Tryz.func69, Tryz.ntmps69
 go_wp2_with (first
  | (go_at_call 111; refine (HR.out _).mono ?_; rintro e w1 ⟨rfl, hw1⟩; subst w1
     have hrn0 := Row.newAt w w.heap.size #[.int .u32 0] 174 (xs := [.int .u32 0]) rfl rfl)
  | (go_at_call 112; refine (store32 ⟨w.heap.size, 0, none⟩ (ctr : Int) (.int .u32 0) _ (hrn0.cell 0 (by simp)) (hrn0.frozen 0 (by simp))).mono ?_; rintro e w2 ⟨rfl, hw2⟩; subst w2))
 have hw0 : ((w.alloc (.cells #[.int .u32 (ctr : Int)] 174)).alloc (.cells #[.pointer none, .slice none 0 0] 167)).heap.size = w.heap.size + 2 := by simp
 have hbd0 : Bld ((w.alloc (.cells #[.int .u32 (ctr : Int)] 174)).alloc (.cells #[.pointer none, .slice none 0 0] 167)) (w.heap.size + 1) [] := by
  have h5 := Bld.new (w.alloc (.cells #[.int .u32 (ctr : Int)] 174)) _ _ _ rfl rfl rfl
  rwa [show (w.alloc (.cells #[.int .u32 (ctr : Int)] 174)).heap.size = w.heap.size + 1 by simp] at h5
 go_loopw [3] (fun v wr => ∃ (cur out : Bs) (c : Nat), v = S cur ∧ out ++ streamL key c nonce cur = tot ∧ out.length + cur.length ≤ 100000 ∧ c + out.length + cur.length ≤ 200000 + out.length ∧ Row wr w.heap.size 174 [.int .u32 (c : Int)] ∧ Bld wr (w.heap.size + 1) out ∧ Below w.heap.size w wr) (fun v _ => match v with | .string s => s.size | _ => 0)
 case atStart => exact ⟨b, [], ctr, rfl, by rw [List.nil_append]; exact HTOT.out.symm, by simp; omega, by simp; omega, (Row.newAt _ _ _ _ rfl rfl).alloc _, hbd0, Pu.alloc (Pu.alloc (Pu.refl w) _) _⟩
 case round =>
  clear hbd0 hw0
  obtain ⟨cur, out, c, rfl, hps, hl1, hl2, hrn, hbd, hbel⟩ := hrel
  have hbs0 := hbel.size
  by_cases h0 : 0 < cur.length
  · have h0' : (0 : Int) < cur.length := by omega
    rw [streamL_step _ _ _ _ h0] at hps
    by_cases h64 : 64 ≤ cur.length
    · have q1 : (64 : Int) ≤ cur.length := by omega
      have q2 : decide ((cur.length : Int) < 64) = false := by simp; omega
      have q3 : ¬ ((cur.length : Int) < 64) := by omega
      have q4 : min (cur.length : Int) 64 = 64 := by omega
      · obtain ⟨p, hp⟩ : ∃ p, p = cur.take 64 := ⟨_, rfl⟩
        have hpe : p.length = 64 := by rw [hp]; simp; omega
        have hpt : cur.take 64 = p := hp.symm
        rw [← hp] at hps
        clear hp
        obtain ⟨blk, hblk⟩ : ∃ l, l = blockL key c nonce := ⟨_, rfl⟩
        have hblkl : blk.length = 64 := by rw [hblk, blockL_length]
        obtain ⟨xo, hxo⟩ : ∃ l, l = xorL p blk := ⟨_, rfl⟩
        have hxol : xo.length ≤ p.length := by rw [hxo, xorL_length]; omega
        have hBl := fun w => block key nonce c hk hn (by omega) w
        have hXo := fun w => xor p blk (.inl (by omega)) w
        rw [← hblk] at hBl
        rw [← hxo] at hXo
        have hps2 : (out ++ xo) ++ streamL key (c+1) nonce (cur.drop 64) = tot := by rw [hxo, hblk, List.append_assoc]; exact hps
        have hcell := hrn.cell 0 (by simp)
        have hfz := hrn.frozen 0 (by simp)
        obtain ⟨c1, hc1⟩ : ∃ c1 : Nat, c1 = c + 1 := ⟨_, rfl⟩
        have e1 : (c1 : Int) - 1 = c := by omega
        have e1w : IntKind.u32.wrap (c : Int) = c := by rw [IntKind.wrap_u32]; omega
        have e2 : (c : Int) + 1 = c1 := by omega
        have HBL := Lib.hid hBl
        have HXO := Lib.hid hXo
        have HPS := Lib.hid hps2
        have HC1 := Lib.hid hc1
        clear hBl hXo hps2 hblk hxo hps hcell hfz hc1
        have cA : ∀ args w, (callFunc 115 args).run Tryz.prog w = .ok (.enter 115 args) w := fun args w => run_callFunc_body Tryz.func115 (by kernel_rfl) (by kernel_rfl) args w
        have cB : ∀ args w, (callFunc 114 args).run Tryz.prog w = .ok (.enter 114 args) w := fun args w => run_callFunc_body Tryz.func114 (by kernel_rfl) (by kernel_rfl) args w
        have cX : ∀ args w, (callFunc 113 args).run Tryz.prog w = .ok (.enter 113 args) w := fun args w => run_callFunc_body Tryz.func113 (by kernel_rfl) (by kernel_rfl) args w
        have cW : ∀ args w, (callFunc 108 args).run Tryz.prog w = .ok (.enter 108 args) w := fun args w => run_callFunc_body Tryz.func108 (by kernel_rfl) (by kernel_rfl) args w
        go_wp2_with fail
        apply region_writer (g := w.heap.size) (n := 9) (hn := by kernel_rfl) (hlast := rfl) (hU := by kernel_rfl) (Φ1 := (Is _ :: Is _ :: Is _ :: Is _ :: [])) (Φm := IsAt (.int .u32 (c1 : Int)) w.heap.size 174 [.int .u32 (c1 : Int)]) (Φ2 := (Is _ :: Is _ :: Is _ :: Is _ :: [])) (hm := by kernel_rfl) (hE := by kernel_rfl) (hD := by kernel_rfl) (hsize := by kernel_rfl)
        case hop =>
         refine ⟨?_, ?_, ?_, ?_, ?_, ?_, ?_, ?_, ?_, trivial⟩
         · intro a' w' hs hp he
           have hp : But w.heap.size _ w' := hp
           have e3 := hs 3 (by kernel_rfl)
           try simp [Is, Region.binds] at he
           exact op_v
         · intro a' w' hs hp he
           have hp : But w.heap.size _ w' := hp
           have e12 := hs 12 (by kernel_rfl)
           try simp [Is, Region.binds] at he
           exact op_v
         · intro a' w' hs hp he
           have hp : But w.heap.size _ w' := hp
           try simp [Is, Region.binds] at he
           exact op_v
         · intro a' w' hs hp he
           have hp : But w.heap.size _ w' := hp
           have e0 := hs 0 (by kernel_rfl)
           try simp [Is, Region.binds] at he
           exact op_v
         · intro a' w' hs hp he
           have hp : Pu _ w' := hp
           have e10 := hs 10 (by kernel_rfl)
           try simp [Is, Region.binds] at he
           have hr := hrn.pu hp; refine op_callB rfl (wanted_none rfl) (by first | (go_simp; done) | (go_simp; rfl)) ((add32 ⟨w.heap.size, 0, none⟩ (c : Int) w' (by omega) (hr.cell 0 (by simp)) (hr.frozen 0 (by simp))).mono ?_); rintro e w5 ⟨rfl, rfl⟩; rw [e2]; exact ⟨_, rfl, ⟨rfl, hr.set 0 _⟩, But.set _ _ _⟩
         · intro a' w' hs hp he
           have hp : But w.heap.size _ w' := hp
           try simp [Is, Region.binds] at he
           obtain ⟨he5, -⟩ := he; exact op_val rfl (wanted_none rfl) (by first | (go_simp; done) | (go_simp; rfl) | (simp [execOp, Act.eval, go_sem, *]; rfl)) rfl (Pu.refl _)
         · intro a' w' hs hp he
           have hp : But w.heap.size _ w' := hp
           have e2 := hs 2 (by kernel_rfl)
           try simp [Is, Region.binds] at he
           exact op_v
         · intro a' w' hs hp he
           have hp : But w.heap.size _ w' := hp
           try simp [Is, Region.binds] at he
           exact op_callP (HBL.out _) rfl (wanted_none rfl) (by first | (go_simp; done) | (go_simp; rfl)) (fun _ => rfl)
         · intro a' w' hs hp he
           have hp : But w.heap.size _ w' := hp
           try simp [Is, Region.binds] at he
           exact op_callP (HXO.out _) rfl (wanted_none rfl) (by first | (go_simp; done) | (go_simp; rfl)) (fun _ => rfl)
        case hend =>
         intro a' w' hdef hsz hs hp hall
         obtain ⟨r0, r1, r2, r3, r4, r5, r6, r7, r8, -⟩ := hall
         obtain ⟨rv4, row4⟩ := r4
         have hA := agree_done (agree_step (agree_step (agree_step (agree_step (agree_step (agree_step (agree_step (agree_step (agree_step (agree_initL [25, 26, 27, 28, 29, 30, 31, 32, 33] hsz hs (by kernel_rfl)) r0) r1) r2) r3) rv4) r5) r6) r7) r8)
         have ha := act_of hA hdef
         rw [ha]
         clear ha hA hs hsz hdef r0 r1 r2 r3 r5 r6 r7 r8 rv4
         (try simp only [List.setIfInBounds_toArray])
         (try dsimp only [List.set_cons_zero, List.set_cons_succ])
         (try simp only [Exit.then])
         refine op_callK rfl (wanted_none rfl) (by first | (go_simp; done) | (go_simp; rfl)) ((write (w.heap.size + 1) out xo w' (hbd.but hp (by omega)) (by omega)).mono ?_); rintro e w5 ⟨rfl, hbd5, hb5⟩; refine ⟨_, rfl, ?_⟩
         (try simp only [Exit.inBlock, Exit.then])
         have hbs := hbel.size
         have hbel5 := (But.below hbel hp (Nat.le_refl _) hbs).trans (Below.mono hb5 (by omega))
         have hrn5 := row4.below hb5 (by omega)
         clear hrn hbd hbel hp row4 hb5 hbs
         go_wp2_with fail
         go_roundw
         case rel =>
          have h9 := HC1.out
          refine ⟨cur.drop 64, out ++ xo, c + 1, rfl, HPS.out, by simp <;> omega, by simp <;> omega, ?_, hbd5, hbel5⟩
          rw [← h9]; exact hrn5
         case measure => simp; omega
    · have q1 : (cur.length : Int) < 64 := by omega
      have q4 : min (cur.length : Int) 64 = cur.length := by omega
      · obtain ⟨p, hp⟩ : ∃ p, p = cur := ⟨_, rfl⟩
        rw [List.take_of_length_le (by omega), List.drop_of_length_le (by omega), ← hp] at hps
        subst hp
        obtain ⟨blk, hblk⟩ : ∃ l, l = blockL key c nonce := ⟨_, rfl⟩
        have hblkl : blk.length = 64 := by rw [hblk, blockL_length]
        obtain ⟨xo, hxo⟩ : ∃ l, l = xorL p blk := ⟨_, rfl⟩
        have hxol : xo.length ≤ p.length := by rw [hxo, xorL_length]; omega
        have hBl := fun w => block key nonce c hk hn (by omega) w
        have hXo := fun w => xor p blk (.inl (by omega)) w
        rw [← hblk] at hBl
        rw [← hxo] at hXo
        have hps2 : (out ++ xo) ++ streamL key (c+1) nonce ([]) = tot := by rw [hxo, hblk, List.append_assoc]; exact hps
        have hcell := hrn.cell 0 (by simp)
        have hfz := hrn.frozen 0 (by simp)
        obtain ⟨c1, hc1⟩ : ∃ c1 : Nat, c1 = c + 1 := ⟨_, rfl⟩
        have e1 : (c1 : Int) - 1 = c := by omega
        have e1w : IntKind.u32.wrap (c : Int) = c := by rw [IntKind.wrap_u32]; omega
        have e2 : (c : Int) + 1 = c1 := by omega
        have HBL := Lib.hid hBl
        have HXO := Lib.hid hXo
        have HPS := Lib.hid hps2
        have HC1 := Lib.hid hc1
        clear hBl hXo hps2 hblk hxo hps hcell hfz hc1
        have cA : ∀ args w, (callFunc 115 args).run Tryz.prog w = .ok (.enter 115 args) w := fun args w => run_callFunc_body Tryz.func115 (by kernel_rfl) (by kernel_rfl) args w
        have cB : ∀ args w, (callFunc 114 args).run Tryz.prog w = .ok (.enter 114 args) w := fun args w => run_callFunc_body Tryz.func114 (by kernel_rfl) (by kernel_rfl) args w
        have cX : ∀ args w, (callFunc 113 args).run Tryz.prog w = .ok (.enter 113 args) w := fun args w => run_callFunc_body Tryz.func113 (by kernel_rfl) (by kernel_rfl) args w
        have cW : ∀ args w, (callFunc 108 args).run Tryz.prog w = .ok (.enter 108 args) w := fun args w => run_callFunc_body Tryz.func108 (by kernel_rfl) (by kernel_rfl) args w
        go_wp2_with fail
        apply region_writer (g := w.heap.size) (n := 9) (hn := by kernel_rfl) (hlast := rfl) (hU := by kernel_rfl) (Φ1 := (Is _ :: Is _ :: Is _ :: Is _ :: [])) (Φm := IsAt (.int .u32 (c1 : Int)) w.heap.size 174 [.int .u32 (c1 : Int)]) (Φ2 := (Is _ :: Is _ :: Is _ :: Is _ :: [])) (hm := by kernel_rfl) (hE := by kernel_rfl) (hD := by kernel_rfl) (hsize := by kernel_rfl)
        case hop =>
         refine ⟨?_, ?_, ?_, ?_, ?_, ?_, ?_, ?_, ?_, trivial⟩
         · intro a' w' hs hp he
           have hp : But w.heap.size _ w' := hp
           have e3 := hs 3 (by kernel_rfl)
           try simp [Is, Region.binds] at he
           exact op_v
         · intro a' w' hs hp he
           have hp : But w.heap.size _ w' := hp
           have e12 := hs 12 (by kernel_rfl)
           try simp [Is, Region.binds] at he
           exact op_v
         · intro a' w' hs hp he
           have hp : But w.heap.size _ w' := hp
           try simp [Is, Region.binds] at he
           exact op_v
         · intro a' w' hs hp he
           have hp : But w.heap.size _ w' := hp
           have e0 := hs 0 (by kernel_rfl)
           try simp [Is, Region.binds] at he
           exact op_v
         · intro a' w' hs hp he
           have hp : Pu _ w' := hp
           have e10 := hs 10 (by kernel_rfl)
           try simp [Is, Region.binds] at he
           have hr := hrn.pu hp; refine op_callB rfl (wanted_none rfl) (by first | (go_simp; done) | (go_simp; rfl)) ((add32 ⟨w.heap.size, 0, none⟩ (c : Int) w' (by omega) (hr.cell 0 (by simp)) (hr.frozen 0 (by simp))).mono ?_); rintro e w5 ⟨rfl, rfl⟩; rw [e2]; exact ⟨_, rfl, ⟨rfl, hr.set 0 _⟩, But.set _ _ _⟩
         · intro a' w' hs hp he
           have hp : But w.heap.size _ w' := hp
           try simp [Is, Region.binds] at he
           obtain ⟨he5, -⟩ := he; exact op_val rfl (wanted_none rfl) (by first | (go_simp; done) | (go_simp; rfl) | (simp [execOp, Act.eval, go_sem, *]; rfl)) rfl (Pu.refl _)
         · intro a' w' hs hp he
           have hp : But w.heap.size _ w' := hp
           have e2 := hs 2 (by kernel_rfl)
           try simp [Is, Region.binds] at he
           exact op_v
         · intro a' w' hs hp he
           have hp : But w.heap.size _ w' := hp
           try simp [Is, Region.binds] at he
           exact op_callP (HBL.out _) rfl (wanted_none rfl) (by first | (go_simp; done) | (go_simp; rfl)) (fun _ => rfl)
         · intro a' w' hs hp he
           have hp : But w.heap.size _ w' := hp
           try simp [Is, Region.binds] at he
           exact op_callP (HXO.out _) rfl (wanted_none rfl) (by first | (go_simp; done) | (go_simp; rfl)) (fun _ => rfl)
        case hend =>
         intro a' w' hdef hsz hs hp hall
         obtain ⟨r0, r1, r2, r3, r4, r5, r6, r7, r8, -⟩ := hall
         obtain ⟨rv4, row4⟩ := r4
         have hA := agree_done (agree_step (agree_step (agree_step (agree_step (agree_step (agree_step (agree_step (agree_step (agree_step (agree_initL [25, 26, 27, 28, 29, 30, 31, 32, 33] hsz hs (by kernel_rfl)) r0) r1) r2) r3) rv4) r5) r6) r7) r8)
         have ha := act_of hA hdef
         rw [ha]
         clear ha hA hs hsz hdef r0 r1 r2 r3 r5 r6 r7 r8 rv4
         (try simp only [List.setIfInBounds_toArray])
         (try dsimp only [List.set_cons_zero, List.set_cons_succ])
         (try simp only [Exit.then])
         refine op_callK rfl (wanted_none rfl) (by first | (go_simp; done) | (go_simp; rfl)) ((write (w.heap.size + 1) out xo w' (hbd.but hp (by omega)) (by omega)).mono ?_); rintro e w5 ⟨rfl, hbd5, hb5⟩; refine ⟨_, rfl, ?_⟩
         (try simp only [Exit.inBlock, Exit.then])
         have hbs := hbel.size
         have hbel5 := (But.below hbel hp (Nat.le_refl _) hbs).trans (Below.mono hb5 (by omega))
         have hrn5 := row4.below hb5 (by omega)
         clear hrn hbd hbel hp row4 hb5 hbs
         go_wp2_with fail
         go_roundw
         case rel =>
          have h9 := HC1.out
          refine ⟨[], out ++ xo, c + 1, (by first | rfl | simp [bs_nil]), HPS.out, by simp <;> omega, by simp <;> omega, ?_, hbd5, hbel5⟩
          rw [← h9]; exact hrn5
         case measure => simp; omega
  · obtain rfl : cur = [] := List.eq_nil_of_length_eq_zero (by omega)
    rw [streamL_nil, List.append_nil] at hps
    subst hps
    go_wp2_with (go_at_call 110; refine (string (w.heap.size + 1) out _ hbd).mono ?_; rintro e w4 ⟨rfl, hp4⟩)
    go_ret2
    exact ⟨by rw [← HTOT.out]; rfl, hbel.trans (Below.mono hp4 (by omega))⟩
end Go.Proofs.YtoakccknimoogaaGreat
set_option linter.unusedSimpArgs false
set_option linter.unusedVariables false
namespace Go.Esc
open Go Go.RowKit
/-- Numbers as cells of 64 bits. -/
def us (l : List Nat) : List Value := l.map fun x : Nat => .int .u64 (x : Int)
theorem us_length (l : List Nat) : (us l).length = l.length := by simp [us]
theorem us_set (l : List Nat) (i x : Nat) : (us l).set i (.int .u64 (x : Int)) = us (l.set i x) := by simp [us, List.map_set]
theorem us_get (l : List Nat) (i : Nat) (h : i < l.length) : (us l)[i]? = some (.int .u64 (l.getD i 0 : Nat)) := by
 simp [us, List.getElem?_eq_getElem h]
theorem us_one (l : List Nat) : (us l).all (·.oneCell') = true := by simp [us, Value.oneCell']
theorem Row.limb {w : World} {g : Nat} {e : TypeId} {l : List Nat} (h : Row w g e (us l)) (j : Nat) (hj : j < l.length) : w.cell? ⟨g, j, none⟩ = some (.int .u64 (l.getD j 0 : Nat)) := by
 rw [h.cell' j (by rw [us_length]; exact hj), us_get l j hj]
theorem and26 (v : Nat) (h : v < 18446744073709551616) : Go.bits .and .u64 (v : Int) 67108863 = ((v % 67108864 : Nat) : Int) := by
 rw [show (67108863 : Int) = ((67108863 : Nat) : Int) from rfl, u64_and _ _ (by omega) (by omega) (by omega) (by omega)]
 congr 1
 rw [Int.toNat_natCast, Int.toNat_natCast, show (67108863 : Nat) = 2 ^ 26 - 1 from rfl, Nat.and_two_pow_sub_one_eq_mod]
theorem cr_succ (l : List Nat) (c0 i : Nat) : cr l c0 (i+1) = ((cr l c0 i).1.set i (((cr l c0 i).1.getD i 0 + (cr l c0 i).2) % 67108864), ((cr l c0 i).1.getD i 0 + (cr l c0 i).2) / 67108864) := rfl
end Go.Esc
namespace Go.Proofs.YtoakccknimoogaaGreat
open Go.RowKit Go.Esc
set_option maxRecDepth 100000 in
set_option maxHeartbeats 1600000 in
theorem carryF (l : List Nat) (hl : Le5 4611686018427387903 l) (xs R : List Value) (hxs : xs = us l) (hR : R = us (carryN l)) (w : World) :
 Calls Tryz.prog 165 #[.agg xs.toArray] w fun e w' => e = .returned (.agg R.toArray) ∧ Pu w w' := by
 have hi5 : (Tryz.prog.info? 206).map (·.size) = some 5 := by kernel_rfl
 have hb := passes_le l hl
 have hlen := passes_length l
 have hxl : xs.length = 5 := by rw [hxs, us_length]; exact hl.1
 have hl5 := hl.1
 have HX := Lib.hid hxs
 have HR := Lib.hid hR
 have HB := Lib.hid hb
 have HLEN := Lib.hid hlen
 clear hxs hR hb hlen hl
 go_enter Tryz.func165, Tryz.ntmps165
 go_wp2_with (refine wpList_box rfl 206 (.tmp 0) rfl xs (by rfl) ?_; intro w0 hrs hp0 hz0)
 rw [HX.out] at hrs
 go_loopw [5] (fun i wr => ∃ n : Nat, n ≤ 3 ∧ i = .int .i64 (n : Int) ∧ Row wr w.heap.size 206 (us (passes l n)) ∧ Row wr (w.heap.size + 1) 206 (us [0, 0, 0, 0, 0]) ∧ Below w.heap.size w wr) (fun i _ => 3 - (intOf i).toNat)
 case atStart => exact ⟨0, by omega, rfl, hrs.alloc _, Row.newAt _ _ _ _ hz0 rfl, hp0.alloc _⟩
 case round =>
  clear hrs hp0
  obtain ⟨n, hn, rfl, hx, hres, hbel⟩ := hrel
  by_cases hlt : n < 3
  · have hlm := HLEN.out n
    have hlb := HB.out n
    obtain ⟨m, hm⟩ : ∃ m, m = passes l n := ⟨_, rfl⟩
    rw [← hm] at hx hlm hlb
    have hpm : pass m = passes l (n+1) := by rw [hm]; rfl
    have HPM := Lib.hid hpm
    have hm5 : m.length = 5 := by omega
    have hcr := fun i => cr_le m 0 4611686018427387903 68719477761 (by decide) (by decide) hlb i
    have HCR := Lib.hid hcr
    clear hm hpm hcr hlb hlm
    go_wp2_with fail
    go_loopw [3, 7] (fun c i wq => ∃ k : Nat, k ≤ 5 ∧ i = .int .i64 (k : Int) ∧ c = .int .u64 ((cr m 0 k).2 : Nat) ∧ Row wq w.heap.size 206 (us (cr m 0 k).1) ∧ Row wq (w.heap.size + 1) 206 (us [0, 0, 0, 0, 0]) ∧ Below w.heap.size w wq) (fun _ i _ => 5 - (intOf i).toNat)
    case atStart => exact ⟨0, by omega, rfl, rfl, hx, hres, hbel⟩
    case round =>
     clear hx hres hbel
     obtain ⟨k, hk, rfl, rfl, hx, hres, hbel⟩ := hrel
     obtain ⟨hc1, hc2, hc3⟩ := HCR.out k hk
     have hcl := cr_length m 0 k
     by_cases hkt : k < 5
     · have hsu := cr_succ m 0 k
       have hck := hc2 k (by omega)
       obtain ⟨y, hy⟩ : ∃ y, y = (cr m 0 k).1 := ⟨_, rfl⟩
       obtain ⟨c, hc⟩ : ∃ y, y = (cr m 0 k).2 := ⟨_, rfl⟩
       obtain ⟨a, ha⟩ : ∃ a, a = (cr m 0 k).1.getD k 0 := ⟨_, rfl⟩
       obtain ⟨v, hv⟩ : ∃ v, v = a + c := ⟨_, rfl⟩
       obtain ⟨q, hq⟩ : ∃ q, q = v / 67108864 := ⟨_, rfl⟩
       obtain ⟨r, hr⟩ : ∃ r, r = v % 67108864 := ⟨_, rfl⟩
       rw [← ha] at hck hsu
       rw [← hy] at hsu hcl hx ha
       rw [← hc] at hsu hc3
       rw [← hc]
       rw [← hv, ← hq, ← hr] at hsu
       have hvl : v < 18446744073709551616 := by omega
       have hcell := Row.limb hx k (by omega)
       rw [← ha] at hcell
       have hfz := hx.frozen k (by rw [us_length]; omega)
       have e1 : (a : Int) + c = v := by omega
       have e2 : IntKind.u64.wrap (v : Int) = v := by rw [IntKind.wrap_u64]; omega
       have e3 : (v : Int) / 67108864 = q := by omega
       have e4 : Go.bits .and .u64 (v : Int) 67108863 = (r : Int) := by rw [and26 v hvl, hr]
       have hk0 : (0 : Int) ≤ k := by omega
       have hk5 : (k : Int) < 5 := by omega
       have HSU := Lib.hid hsu
       have HY := Lib.hid hy
       clear hsu hy hc ha hv hq hr hc1 hc2
       go_wp2_with fail
       go_roundw
       case rel =>
        refine ⟨k + 1, by omega, by go_num, by rw [HSU.out], ?_, ?_, ?_⟩
        · rw [HSU.out]
          have h1 := (hx.set k (.int .u64 (v : Int))).set k (.int .u64 (r : Int))
          rw [List.set_set, us_set] at h1
          exact h1
        · exact (hres.setOther _ _ (by simp)).setOther _ _ (by simp)
        · exact (hbel.setCell (by simp) _).setCell (by simp) _
       case measure => simp [intOf]; omega
     · obtain rfl : k = 5 := by omega
       have hck := hc1 0 (by omega)
       obtain ⟨y, hy⟩ : ∃ y, y = (cr m 0 5).1 := ⟨_, rfl⟩
       obtain ⟨c, hc⟩ : ∃ y, y = (cr m 0 5).2 := ⟨_, rfl⟩
       have hpa : pass m = y.set 0 (y.getD 0 0 + c * 5) := by rw [hy, hc]; rfl
       obtain ⟨a, ha⟩ : ∃ a, a = y.getD 0 0 := ⟨_, rfl⟩
       rw [← hy] at hck hcl hx
       rw [← hc] at hc3
       rw [← hc]
       rw [← ha] at hck hpa
       obtain ⟨v, hv⟩ : ∃ v, v = a + c * 5 := ⟨_, rfl⟩
       obtain ⟨d, hd⟩ : ∃ d, d = c * 5 := ⟨_, rfl⟩
       rw [← hv] at hpa
       have hvl : v < 18446744073709551616 := by omega
       have hdl : d < 18446744073709551616 := by omega
       have hcell := Row.limb hx 0 (by omega)
       rw [← ha] at hcell
       have hfz := hx.frozen 0 (by rw [us_length]; omega)
       have e0 : (c : Int) * 5 = d := by omega
       have e5 : IntKind.u64.wrap (d : Int) = d := by rw [IntKind.wrap_u64]; omega
       have e1 : (a : Int) + d = v := by omega
       have e2 : IntKind.u64.wrap (v : Int) = v := by rw [IntKind.wrap_u64]; omega
       have HPA := Lib.hid hpa
       clear hpa hy hc ha hv hd hc1 hc2
       go_wp2_with fail
       go_roundw
       case rel =>
        refine ⟨n + 1, by omega, by go_num, ?_, ?_, ?_⟩
        · rw [← HPM.out, HPA.out]
          have h1 := hx.set 0 (.int .u64 (v : Int))
          rw [us_set] at h1
          exact h1
        · exact hres.setOther _ _ (by simp)
        · exact hbel.setCell (by simp) _
       case measure => simp [intOf]; omega
  · obtain rfl : n = 3 := by omega
    have hlm := HLEN.out 3
    obtain ⟨z, hz⟩ : ∃ z, z = us (passes l 3) := ⟨_, rfl⟩
    have hz5 : z.length = 5 := by rw [hz, us_length]; omega
    have hz1 : z.all (·.oneCell') = true := by rw [hz]; exact us_one _
    have htk : ((z.drop 0).take 5) = z := by rw [List.drop_zero, List.take_of_length_le (by omega)]
    rw [← hz] at hx
    have hRz : R = z := by rw [HR.out, hz]; rfl
    have HRZ := Lib.hid hRz
    clear hz hRz hlm
    go_wp2_with (first
     | (refine wpList_load_part rfl 206 (.tmp 1) rfl w.heap.size 0 5 (by rfl) hx Tryz.underlying206 rfl hi5 (by omega) ?_; rw [htk])
     | (refine wpList_store_part rfl 206 (.tmp 2) (.tmp 33) rfl (w.heap.size + 1) 0 z (by rfl) (by rfl) hres (by rw [hz5]; exact hi5) (by rw [hz5]; decide) hz1 ?_; intro w1 hr1 hch))
    rw [splice_all (by rw [hz5]; rfl)] at hr1
    have hrl := hr1.load (P := Tryz.prog) 206 0 5 Tryz.underlying206 rfl hi5 (by omega)
    rw [htk] at hrl
    (try simp only [Exit.inBlock, Exit.then])
    refine bodyPost_ret (results_cell_eq rfl _ _ rfl hrl) rfl ?_
    exact ⟨by rw [HRZ.out], hch.below hbel (by omega)⟩
end Go.Proofs.YtoakccknimoogaaGreat
set_option linter.unusedSimpArgs false
set_option linter.unusedVariables false
namespace Go.Esc
open Go Go.RowKit
def plusTo (x y : List Nat) (i : Nat) : List Nat := (List.range 5).map fun k => if k < i then x.getD k 0 + y.getD k 0 else x.getD k 0
theorem plusTo_length (x y : List Nat) (i : Nat) : (plusTo x y i).length = 5 := by simp [plusTo]
theorem plusTo_get (x y : List Nat) (i : Nat) (h : i < 5) : (plusTo x y i).getD i 0 = x.getD i 0 := by simp [plusTo, h]
theorem plusTo_zero (x y : List Nat) (h : x.length = 5) : plusTo x y 0 = x := by
 obtain ⟨a, b, c, d, e, rfl⟩ := five x h; rfl
theorem plusTo_all (x y : List Nat) : plusTo x y 5 = plus5 x y := rfl
theorem plusTo_set (x y : List Nat) (i : Nat) (h : i < 5) : (plusTo x y i).set i (x.getD i 0 + y.getD i 0) = plusTo x y (i+1) := by
 rcases (by omega : i = 0 ∨ i = 1 ∨ i = 2 ∨ i = 3 ∨ i = 4) with rfl | rfl | rfl | rfl | rfl <;> rfl
theorem mulAt_length (x y : List Nat) (i j : Nat) : (mulAt x y i j).length = 5 := by simp [mulAt]
theorem mulAt_get (x y : List Nat) (i j : Nat) (h : i < 5) : (mulAt x y i j).getD i 0 = col x y i j := by simp [mulAt, h]
theorem mulAt_set (x y : List Nat) (i j : Nat) (h : i < 5) : (mulAt x y i j).set i (col x y i (j+1)) = mulAt x y i (j+1) := by
 rcases (by omega : i = 0 ∨ i = 1 ∨ i = 2 ∨ i = 3 ∨ i = 4) with rfl | rfl | rfl | rfl | rfl <;> rfl
theorem mulAt_next (x y : List Nat) (i : Nat) (h : i < 5) : mulAt x y i 5 = mulAt x y (i+1) 0 := by
 rcases (by omega : i = 0 ∨ i = 1 ∨ i = 2 ∨ i = 3 ∨ i = 4) with rfl | rfl | rfl | rfl | rfl <;> rfl
theorem or_low (k q m : Nat) (hq : q < 2 ^ k) (h1 : q + m * 2 ^ k < 18446744073709551616) : Go.bits .or .u64 (q : Int) ((m * 2 ^ k : Nat) : Int) = ((q + m * 2 ^ k : Nat) : Int) := by
 rw [u64_or_nat _ _ (by omega) (by omega), Nat.or_comm, nat_join k _ _ (by simp) hq, Nat.add_comm]
end Go.Esc
namespace Go.Proofs.YtoakccknimoogaaGreat
open Go.RowKit Go.Esc
set_option maxRecDepth 100000 in
set_option maxHeartbeats 1600000 in
theorem plusF (x y : List Nat) (hxb : Le5 67108863 x) (hyb : Le5 67108863 y) (xs ys R : List Value) (hxs : xs = us x) (hys : ys = us y) (hR : R = us (plus5 x y)) (w : World) :
 Calls Tryz.prog 148 #[.agg xs.toArray, .agg ys.toArray] w fun e w' => e = .returned (.agg R.toArray) ∧ Pu w w' := by
 have hi5 : (Tryz.prog.info? 206).map (·.size) = some 5 := by kernel_rfl
 have hx5 := hxb.1
 have hy5 := hyb.1
 have HX := Lib.hid hxs
 have HY := Lib.hid hys
 have HR := Lib.hid hR
 clear hxs hys hR
 go_enter Tryz.func148, Tryz.ntmps148
 go_wp2_with (first
  | (refine wpList_box rfl 206 (.tmp 0) rfl xs (by rfl) ?_; intro w0 hrx hp0 hz0)
  | (refine wpList_box rfl 206 (.tmp 1) rfl ys (by rfl) ?_; intro w1 hry hp1 hz1))
 rw [HX.out] at hrx
 rw [HY.out] at hry
 have hs1 : w1.heap.size = w.heap.size + 2 := by omega
 rw [hz0] at hry
 go_loopw [6] (fun i wr => ∃ k : Nat, k ≤ 5 ∧ i = .int .i64 (k : Int) ∧ Row wr w.heap.size 206 (us (plusTo x y k)) ∧ Row wr (w.heap.size + 1) 206 (us y) ∧ Row wr (w.heap.size + 2) 206 (us [0, 0, 0, 0, 0]) ∧ Below w.heap.size w wr) (fun i _ => 5 - (intOf i).toNat)
 case atStart => exact ⟨0, by omega, rfl, by rw [plusTo_zero x y hx5]; exact (hrx.pu hp1).alloc _, hry.alloc _, Row.newAt _ _ _ _ hs1 rfl, (hp0.trans hp1).alloc _⟩
 case round =>
  clear hrx hry hp0 hp1
  obtain ⟨k, hk, rfl, hrx, hry, hres, hbel⟩ := hrel
  by_cases hlt : k < 5
  · have hset := plusTo_set x y k hlt
    have hga := getD_le hxb k
    have hgb := getD_le hyb k
    obtain ⟨a, ha⟩ : ∃ a, a = x.getD k 0 := ⟨_, rfl⟩
    obtain ⟨b, hb⟩ : ∃ b, b = y.getD k 0 := ⟨_, rfl⟩
    obtain ⟨v, hv⟩ : ∃ v, v = a + b := ⟨_, rfl⟩
    rw [← ha] at hga hset
    rw [← hb] at hgb hset
    rw [← hv] at hset
    have e1 : (a : Int) + b = v := by omega
    have e2 : IntKind.u64.wrap (v : Int) = v := by rw [IntKind.wrap_u64]; omega
    have hk0 : (0 : Int) ≤ k := by omega
    have hk5 : (k : Int) < 5 := by omega
    have HA := Lib.hid ha
    have HB := Lib.hid hb
    have HS := Lib.hid hset
    clear ha hb hv hset
    go_wp2_with fail
    apply region_last (n := 8) (hn := by kernel_rfl) (hlast := rfl) (hU := by kernel_rfl) (Φs := (Is _ :: Is _ :: Is _ :: Is _ :: Is _ :: Is _ :: Is _ :: Is _ :: [])) (hm := by kernel_rfl) (hE := by kernel_rfl) (hD := by kernel_rfl) (hsize := by kernel_rfl)
    case hop =>
     refine ⟨?_, ?_, ?_, ?_, ?_, ?_, ?_, ?_, trivial⟩
     · intro a' w' hs hp he
       have e5 := hs 5 (by kernel_rfl)
       try simp [Is, Region.binds] at he
       exact op_v
     · intro a' w' hs hp he
       have e2 := hs 2 (by kernel_rfl)
       try simp [Is, Region.binds] at he
       exact op_v
     · intro a' w' hs hp he
       try simp [Is, Region.binds] at he
       have c := Row.limb (hrx.pu hp) k (by rw [plusTo_length]; omega); rw [plusTo_get _ _ _ hlt, ← HA.out] at c; exact op_val rfl (wanted_none rfl) (by first | (go_simp; done) | (go_simp; rfl)) rfl (Pu.refl _)
     · intro a' w' hs hp he
       have e5 := hs 5 (by kernel_rfl)
       try simp [Is, Region.binds] at he
       exact op_v
     · intro a' w' hs hp he
       have e3 := hs 3 (by kernel_rfl)
       try simp [Is, Region.binds] at he
       exact op_v
     · intro a' w' hs hp he
       try simp [Is, Region.binds] at he
       have c := Row.limb (hry.pu hp) k (by omega); rw [← HB.out] at c; exact op_val rfl (wanted_none rfl) (by first | (go_simp; done) | (go_simp; rfl)) rfl (Pu.refl _)
     · intro a' w' hs hp he
       try simp [Is, Region.binds] at he
       exact op_v
     · intro a' w' hs hp he
       have e2 := hs 2 (by kernel_rfl)
       try simp [Is, Region.binds] at he
       exact op_v
    case hend =>
     intro a' w' hdef hsz hs hp hall
     obtain ⟨r0, r1, r2, r3, r4, r5, r6, r7, -⟩ := hall
     have hA := agree_done (agree_step (agree_step (agree_step (agree_step (agree_step (agree_step (agree_step (agree_step (agree_init [9, 10, 11, 12, 13, 14, 15, 16] hsz hs (by kernel_rfl)) r0) r1) r2) r3) r4) r5) r6) r7)
     have ha := act_of hA hdef
     rw [ha]
     clear ha hA hs hsz hdef r0 r1 r2 r3 r4 r5 r6 r7 
     (try simp only [List.setIfInBounds_toArray])
     (try dsimp only [List.set_cons_zero, List.set_cons_succ])
     (try simp only [Exit.then])
     have c := Row.limb (hrx.pu hp) k (by rw [plusTo_length]; omega); rw [plusTo_get _ _ _ hlt, ← HA.out] at c; have hf := (hrx.pu hp).frozen k (by rw [us_length, plusTo_length]; omega)
     refine op_done rfl (wanted_none rfl) (by first | (go_simp; done) | (go_simp; rfl)) ?_
     (try simp only [Exit.inBlock, Exit.then])
     go_wp2_with fail
     go_roundw
     case rel =>
      replace hrx := hrx.pu hp
      replace hry := hry.pu hp
      replace hres := hres.pu hp
      replace hbel := hbel.trans (Below.mono hp hbel.size)
      have h1 := hrx.set k (.int .u64 (v : Int))
      rw [us_set, HS.out] at h1
      first | exact ⟨k + 1, by omega, by go_num, h1, hry.setOther _ _ (by simp), hres.setOther _ _ (by simp), hbel.setCell (by simp) _⟩ | ((repeat apply Exists.intro); exact ⟨⟨k + 1, by omega, by go_num, h1, hry.setOther _ _ (by simp), hres.setOther _ _ (by simp), hbel.setCell (by simp) _⟩, rfl⟩)
     case measure => simp [intOf]; omega
  · obtain rfl : k = 5 := by omega
    have hx := hrx
    rw [plusTo_all] at hx
    obtain ⟨z, hz⟩ : ∃ z, z = us (plus5 x y) := ⟨_, rfl⟩
    have hz5 : z.length = 5 := by rw [hz, us_length]; rfl
    have hz1 : z.all (·.oneCell') = true := by rw [hz]; exact us_one _
    have htk : ((z.drop 0).take 5) = z := by rw [List.drop_zero, List.take_of_length_le (by omega)]
    rw [← hz] at hx
    have hRz : R = z := by rw [HR.out, hz]
    have HRZ := Lib.hid hRz
    clear hz hRz hrx
    go_wp2_with (first
     | (refine wpList_load_part rfl 206 (.tmp 2) rfl (w.heap.size) 0 5 (by rfl) hx Tryz.underlying206 rfl hi5 (by omega) ?_; rw [htk])
     | (refine wpList_store_part rfl 206 (.tmp 4) (.tmp 18) rfl (w.heap.size + 2) 0 z (by rfl) (by rfl) hres (by rw [hz5]; exact hi5) (by rw [hz5]; decide) hz1 ?_; intro wl hr1 hch))
    rw [splice_all (by rw [hz5]; rfl)] at hr1
    have hrl := hr1.load (P := Tryz.prog) 206 0 5 Tryz.underlying206 rfl hi5 (by omega)
    rw [htk] at hrl
    (try simp only [Exit.inBlock, Exit.then])
    refine bodyPost_ret (results_cell_eq rfl _ _ rfl hrl) rfl ?_
    exact ⟨by rw [HRZ.out], hch.below hbel (by omega)⟩
set_option maxRecDepth 100000 in
set_option maxHeartbeats 3200000 in
theorem timesF (x y : List Nat) (hxb : Le5 134217726 x) (hyb : Le5 67108863 y) (xs ys R : List Value) (hxs : xs = us x) (hys : ys = us y) (hR : R = us (carryN (mulN x y))) (w : World) :
 Calls Tryz.prog 149 #[.agg xs.toArray, .agg ys.toArray] w fun e w' => e = .returned (.agg R.toArray) ∧ Pu w w' := by
 have hi5 : (Tryz.prog.info? 206).map (·.size) = some 5 := by kernel_rfl
 have hx5 := hxb.1
 have hy5 := hyb.1
 have HX := Lib.hid hxs
 have HY := Lib.hid hys
 have HR := Lib.hid hR
 clear hxs hys hR
 go_enter Tryz.func149, Tryz.ntmps149
 go_wp2_with (first
  | (refine wpList_box rfl 206 (.tmp 0) rfl xs (by rfl) ?_; intro w0 hrx hp0 hz0)
  | (refine wpList_box rfl 206 (.tmp 1) rfl ys (by rfl) ?_; intro w1 hry hp1 hz1))
 rw [HX.out] at hrx
 rw [HY.out] at hry
 have hs1 : w1.heap.size = w.heap.size + 2 := by omega
 rw [hz0] at hry
 go_loopw [8] (fun i wr => ∃ k : Nat, k ≤ 5 ∧ i = .int .i64 (k : Int) ∧ Row wr w.heap.size 206 (us x) ∧ Row wr (w.heap.size + 1) 206 (us y) ∧ Row wr (w.heap.size + 2) 206 (us [0, 0, 0, 0, 0]) ∧ Row wr (w.heap.size + 3) 206 (us (mulAt x y k 0)) ∧ Below w.heap.size w wr) (fun i _ => 5 - (intOf i).toNat)
 case atStart => exact ⟨0, by omega, rfl, ((hrx.pu hp1).alloc _).alloc _, (hry.alloc _).alloc _, (Row.newAt _ _ _ _ hs1 rfl).alloc _, Row.newAt _ _ _ _ (by simp; omega) rfl, Pu.alloc (Pu.alloc (hp0.trans hp1) _) _⟩
 case round =>
  clear hrx hry hp0 hp1
  obtain ⟨i, hi, rfl, hrx, hry, hres, hro, hbel⟩ := hrel
  by_cases hlt : i < 5
  · have hi0 : (0 : Int) ≤ i := by omega
    have hi5' : (i : Int) < 5 := by omega
    go_wp2_with fail
    go_loopw [11] (fun v wq => ∃ j : Nat, j ≤ 5 ∧ v = .int .i64 (j : Int) ∧ Row wq w.heap.size 206 (us x) ∧ Row wq (w.heap.size + 1) 206 (us y) ∧ Row wq (w.heap.size + 2) 206 (us [0, 0, 0, 0, 0]) ∧ Row wq (w.heap.size + 3) 206 (us (mulAt x y i j)) ∧ Below w.heap.size w wq) (fun v _ => 5 - (intOf v).toNat)
    case atStart => exact ⟨0, by omega, rfl, hrx, hry, hres, hro, hbel⟩
    case round =>
     clear hrx hry hres hro hbel
     obtain ⟨j, hj, rfl, hrx, hry, hres, hro, hbel⟩ := hrel
     by_cases hjt : j < 5
     · have hset := mulAt_set x y i j hlt
       have hcl := col_le hxb hyb i j
       have hga := getD_le hxb j
       have hj0 : (0 : Int) ≤ j := by omega
       have hj5 : (j : Int) < 5 := by omega
       have hcs : col x y i (j+1) = col x y i j + tm x y i j := rfl
       by_cases hji : j ≤ i
       · have htm : tm x y i j = x.getD j 0 * y.getD (i - j) 0 := by rw [tm, if_pos hji]
         obtain ⟨d, hd⟩ : ∃ d, d = i - j := ⟨_, rfl⟩
         have hgb := getD_le hyb d
         rw [← hd] at htm
         obtain ⟨a, ha⟩ : ∃ a, a = x.getD j 0 := ⟨_, rfl⟩
         obtain ⟨b, hb⟩ : ∃ b, b = y.getD d 0 := ⟨_, rfl⟩
         obtain ⟨o, ho⟩ : ∃ o, o = col x y i j := ⟨_, rfl⟩
         obtain ⟨p, hp⟩ : ∃ p, p = a * b := ⟨_, rfl⟩
         obtain ⟨v, hv⟩ : ∃ v, v = o + p := ⟨_, rfl⟩
         rw [← ha] at hga htm
         rw [← hb] at hgb htm
         rw [← hp] at htm
         rw [htm, ← ho, ← hv] at hcs
         rw [hcs] at hset
         rw [← ho] at hcl
         have hpl : p ≤ 134217726 * 67108863 := by rw [hp]; exact Nat.mul_le_mul hga hgb
         have hcl2 : j * (134217726 * 67108863 * 5) ≤ 5 * (134217726 * 67108863 * 5) := Nat.mul_le_mul_right _ hj
         have hd5 : d < 5 := by omega
         have e0 : (i : Int) - j = d := by omega
         have e0' : IntKind.i64.wrap (d : Int) = d := by rw [IntKind.wrap_i64]; omega
         have hd0 : (0 : Int) ≤ d := by omega
         have hd5' : (d : Int) < 5 := by omega
         have e1 : (a : Int) * b = p := by rw [hp]; simp
         have e2 : IntKind.u64.wrap (p : Int) = p := by rw [IntKind.wrap_u64]; omega
         have e3 : (o : Int) + p = v := by omega
         have e4 : IntKind.u64.wrap (v : Int) = v := by rw [IntKind.wrap_u64]; omega
         have hji' : (j : Int) ≤ i := by omega
         have HA := Lib.hid ha
         have HB := Lib.hid hb
         have HO := Lib.hid ho
         have HS := Lib.hid hset
         clear ha hb ho hp hv hset hcs htm hd hcl hcl2
         go_wp2_with fail
         apply region_last (n := 14) (hn := by kernel_rfl) (hlast := rfl) (hU := by kernel_rfl) (Φs := (Is _ :: Is _ :: Is _ :: Is _ :: Is _ :: Is _ :: Is _ :: Is _ :: Is _ :: Is _ :: Is _ :: Is _ :: Is _ :: Is _ :: [])) (hm := by kernel_rfl) (hE := by kernel_rfl) (hD := by kernel_rfl) (hsize := by kernel_rfl)
         case hop =>
          refine ⟨?_, ?_, ?_, ?_, ?_, ?_, ?_, ?_, ?_, ?_, ?_, ?_, ?_, ?_, trivial⟩
          · intro a' w' hs hp he
            have e6 := hs 6 (by kernel_rfl)
            try simp [Is, Region.binds] at he
            exact op_v
          · intro a' w' hs hp he
            have e5 := hs 5 (by kernel_rfl)
            try simp [Is, Region.binds] at he
            exact op_v
          · intro a' w' hs hp he
            try simp [Is, Region.binds] at he
            have c := Row.limb (hro.pu hp) i (by rw [mulAt_length]; omega); rw [mulAt_get _ _ _ _ hlt, ← HO.out] at c; exact op_val rfl (wanted_none rfl) (by first | (go_simp; done) | (go_simp; rfl)) rfl (Pu.refl _)
          · intro a' w' hs hp he
            have e7 := hs 7 (by kernel_rfl)
            try simp [Is, Region.binds] at he
            exact op_v
          · intro a' w' hs hp he
            have e2 := hs 2 (by kernel_rfl)
            try simp [Is, Region.binds] at he
            exact op_v
          · intro a' w' hs hp he
            try simp [Is, Region.binds] at he
            have c := Row.limb (hrx.pu hp) j (by omega); rw [← HA.out] at c; exact op_val rfl (wanted_none rfl) (by first | (go_simp; done) | (go_simp; rfl)) rfl (Pu.refl _)
          · intro a' w' hs hp he
            have e6 := hs 6 (by kernel_rfl)
            try simp [Is, Region.binds] at he
            exact op_v
          · intro a' w' hs hp he
            have e7 := hs 7 (by kernel_rfl)
            try simp [Is, Region.binds] at he
            exact op_v
          · intro a' w' hs hp he
            try simp [Is, Region.binds] at he
            exact op_v
          · intro a' w' hs hp he
            have e3 := hs 3 (by kernel_rfl)
            try simp [Is, Region.binds] at he
            exact op_v
          · intro a' w' hs hp he
            try simp [Is, Region.binds] at he
            have c := Row.limb (hry.pu hp) d (by omega); rw [← HB.out] at c; exact op_val rfl (wanted_none rfl) (by first | (go_simp; done) | (go_simp; rfl)) rfl (Pu.refl _)
          · intro a' w' hs hp he
            try simp [Is, Region.binds] at he
            exact op_v
          · intro a' w' hs hp he
            try simp [Is, Region.binds] at he
            exact op_v
          · intro a' w' hs hp he
            have e5 := hs 5 (by kernel_rfl)
            try simp [Is, Region.binds] at he
            exact op_v
         case hend =>
          intro a' w' hdef hsz hs hp hall
          obtain ⟨r0, r1, r2, r3, r4, r5, r6, r7, r8, r9, r10, r11, r12, r13, -⟩ := hall
          have hA := agree_done (agree_step (agree_step (agree_step (agree_step (agree_step (agree_step (agree_step (agree_step (agree_step (agree_step (agree_step (agree_step (agree_step (agree_step (agree_init [17, 18, 19, 20, 21, 22, 23, 24, 25, 26, 27, 28, 29, 30] hsz hs (by kernel_rfl)) r0) r1) r2) r3) r4) r5) r6) r7) r8) r9) r10) r11) r12) r13)
          have ha := act_of hA hdef
          rw [ha]
          clear ha hA hs hsz hdef r0 r1 r2 r3 r4 r5 r6 r7 r8 r9 r10 r11 r12 r13 
          (try simp only [List.setIfInBounds_toArray])
          (try dsimp only [List.set_cons_zero, List.set_cons_succ])
          (try simp only [Exit.then])
          have c := Row.limb (hro.pu hp) i (by rw [mulAt_length]; omega); rw [mulAt_get _ _ _ _ hlt, ← HO.out] at c; have hf := (hro.pu hp).frozen i (by rw [us_length, mulAt_length]; omega)
          refine op_done rfl (wanted_none rfl) (by first | (go_simp; done) | (go_simp; rfl)) ?_
          (try simp only [Exit.inBlock, Exit.then])
          go_wp2_with fail
          go_roundw
          case rel =>
           replace hrx := hrx.pu hp
           replace hry := hry.pu hp
           replace hres := hres.pu hp
           replace hro := hro.pu hp
           replace hbel := hbel.trans (Below.mono hp hbel.size)
           have h1 := hro.set i (.int .u64 (v : Int))
           rw [us_set, HS.out] at h1
           have h2 := hrx.setOther (⟨w.heap.size + 3, i, none⟩ : Addr) (.int .u64 (v : Int)) (by simp)
           have h3 := hry.setOther (⟨w.heap.size + 3, i, none⟩ : Addr) (.int .u64 (v : Int)) (by simp)
           have h4 := hres.setOther (⟨w.heap.size + 3, i, none⟩ : Addr) (.int .u64 (v : Int)) (by simp)
           have h5 := hbel.setCell (p := (⟨w.heap.size + 3, i, none⟩ : Addr)) (by simp) (.int .u64 (v : Int))
           first | exact ⟨j + 1, by omega, by go_num, h2, h3, h4, h1, h5⟩ | ((repeat apply Exists.intro); exact ⟨⟨j + 1, by omega, by go_num, h2, h3, h4, h1, h5⟩, rfl⟩)
          case measure => simp [intOf]; omega
       · have htm : tm x y i j = x.getD j 0 * y.getD (5 + i - j) 0 * 5 := by rw [tm, if_neg hji]
         obtain ⟨d, hd⟩ : ∃ d, d = 5 + i - j := ⟨_, rfl⟩
         have hgb := getD_le hyb d
         rw [← hd] at htm
         obtain ⟨a, ha⟩ : ∃ a, a = x.getD j 0 := ⟨_, rfl⟩
         obtain ⟨b, hb⟩ : ∃ b, b = y.getD d 0 := ⟨_, rfl⟩
         obtain ⟨o, ho⟩ : ∃ o, o = col x y i j := ⟨_, rfl⟩
         obtain ⟨p, hp⟩ : ∃ p, p = a * b := ⟨_, rfl⟩
         obtain ⟨p5, hp5⟩ : ∃ q, q = p * 5 := ⟨_, rfl⟩
         obtain ⟨v, hv⟩ : ∃ v, v = o + p5 := ⟨_, rfl⟩
         rw [← ha] at hga htm
         rw [← hb] at hgb htm
         rw [← hp, ← hp5] at htm
         rw [htm, ← ho, ← hv] at hcs
         rw [hcs] at hset
         rw [← ho] at hcl
         have hpl : p ≤ 134217726 * 67108863 := by rw [hp]; exact Nat.mul_le_mul hga hgb
         have hcl2 : j * (134217726 * 67108863 * 5) ≤ 5 * (134217726 * 67108863 * 5) := Nat.mul_le_mul_right _ hj
         have hd5 : d < 5 := by omega
         obtain ⟨s5, hs5⟩ : ∃ s : Nat, s = 5 + i := ⟨_, rfl⟩
         have e05 : IntKind.i64.wrap (5 + (i : Int)) = s5 := by rw [IntKind.wrap_i64]; omega
         have e06 : (5 : Int) + i = s5 := by omega
         have e00 : (s5 : Int) - j = d := by omega
         have e07 : IntKind.i64.wrap (s5 : Int) = s5 := by rw [IntKind.wrap_i64]; omega
         have e0' : IntKind.i64.wrap (d : Int) = d := by rw [IntKind.wrap_i64]; omega
         have hd0 : (0 : Int) ≤ d := by omega
         have hd5' : (d : Int) < 5 := by omega
         have e1 : (a : Int) * b = p := by rw [hp]; simp
         have e2 : IntKind.u64.wrap (p : Int) = p := by rw [IntKind.wrap_u64]; omega
         have e15 : (p : Int) * 5 = p5 := by omega
         have e25 : IntKind.u64.wrap (p5 : Int) = p5 := by rw [IntKind.wrap_u64]; omega
         have e3 : (o : Int) + p5 = v := by omega
         have e4 : IntKind.u64.wrap (v : Int) = v := by rw [IntKind.wrap_u64]; omega
         have hji' : decide ((j : Int) ≤ i) = false := by simp; omega
         have HA := Lib.hid ha
         have HB := Lib.hid hb
         have HO := Lib.hid ho
         have HS := Lib.hid hset
         clear ha hb ho hp hp5 hv hset hcs htm hd hcl hcl2 hs5
         go_wp2_with fail
         apply region_last (n := 16) (hn := by kernel_rfl) (hlast := rfl) (hU := by kernel_rfl) (Φs := (Is _ :: Is _ :: Is _ :: Is _ :: Is _ :: Is _ :: Is _ :: Is _ :: Is _ :: Is _ :: Is _ :: Is _ :: Is _ :: Is _ :: Is _ :: Is _ :: [])) (hm := by kernel_rfl) (hE := by kernel_rfl) (hD := by kernel_rfl) (hsize := by kernel_rfl)
         case hop =>
          refine ⟨?_, ?_, ?_, ?_, ?_, ?_, ?_, ?_, ?_, ?_, ?_, ?_, ?_, ?_, ?_, ?_, trivial⟩
          · intro a' w' hs hp he
            have e6 := hs 6 (by kernel_rfl)
            try simp [Is, Region.binds] at he
            exact op_v
          · intro a' w' hs hp he
            have e5 := hs 5 (by kernel_rfl)
            try simp [Is, Region.binds] at he
            exact op_v
          · intro a' w' hs hp he
            try simp [Is, Region.binds] at he
            have c := Row.limb (hro.pu hp) i (by rw [mulAt_length]; omega); rw [mulAt_get _ _ _ _ hlt, ← HO.out] at c; exact op_val rfl (wanted_none rfl) (by first | (go_simp; done) | (go_simp; rfl)) rfl (Pu.refl _)
          · intro a' w' hs hp he
            have e7 := hs 7 (by kernel_rfl)
            try simp [Is, Region.binds] at he
            exact op_v
          · intro a' w' hs hp he
            have e2 := hs 2 (by kernel_rfl)
            try simp [Is, Region.binds] at he
            exact op_v
          · intro a' w' hs hp he
            try simp [Is, Region.binds] at he
            have c := Row.limb (hrx.pu hp) j (by omega); rw [← HA.out] at c; exact op_val rfl (wanted_none rfl) (by first | (go_simp; done) | (go_simp; rfl)) rfl (Pu.refl _)
          · intro a' w' hs hp he
            have e6 := hs 6 (by kernel_rfl)
            try simp [Is, Region.binds] at he
            exact op_v
          · intro a' w' hs hp he
            try simp [Is, Region.binds] at he
            exact op_v
          · intro a' w' hs hp he
            have e7 := hs 7 (by kernel_rfl)
            try simp [Is, Region.binds] at he
            exact op_v
          · intro a' w' hs hp he
            try simp [Is, Region.binds] at he
            exact op_v
          · intro a' w' hs hp he
            have e3 := hs 3 (by kernel_rfl)
            try simp [Is, Region.binds] at he
            exact op_v
          · intro a' w' hs hp he
            try simp [Is, Region.binds] at he
            have c := Row.limb (hry.pu hp) d (by omega); rw [← HB.out] at c; exact op_val rfl (wanted_none rfl) (by first | (go_simp; done) | (go_simp; rfl)) rfl (Pu.refl _)
          · intro a' w' hs hp he
            try simp [Is, Region.binds] at he
            exact op_v
          · intro a' w' hs hp he
            try simp [Is, Region.binds] at he
            exact op_v
          · intro a' w' hs hp he
            try simp [Is, Region.binds] at he
            exact op_v
          · intro a' w' hs hp he
            have e5 := hs 5 (by kernel_rfl)
            try simp [Is, Region.binds] at he
            exact op_v
         case hend =>
          intro a' w' hdef hsz hs hp hall
          obtain ⟨r0, r1, r2, r3, r4, r5, r6, r7, r8, r9, r10, r11, r12, r13, r14, r15, -⟩ := hall
          have hA := agree_done (agree_step (agree_step (agree_step (agree_step (agree_step (agree_step (agree_step (agree_step (agree_step (agree_step (agree_step (agree_step (agree_step (agree_step (agree_step (agree_step (agree_init [31, 32, 33, 34, 35, 36, 37, 38, 39, 40, 41, 42, 43, 44, 45, 46] hsz hs (by kernel_rfl)) r0) r1) r2) r3) r4) r5) r6) r7) r8) r9) r10) r11) r12) r13) r14) r15)
          have ha := act_of hA hdef
          rw [ha]
          clear ha hA hs hsz hdef r0 r1 r2 r3 r4 r5 r6 r7 r8 r9 r10 r11 r12 r13 r14 r15 
          (try simp only [List.setIfInBounds_toArray])
          (try dsimp only [List.set_cons_zero, List.set_cons_succ])
          (try simp only [Exit.then])
          have c := Row.limb (hro.pu hp) i (by rw [mulAt_length]; omega); rw [mulAt_get _ _ _ _ hlt, ← HO.out] at c; have hf := (hro.pu hp).frozen i (by rw [us_length, mulAt_length]; omega)
          refine op_done rfl (wanted_none rfl) (by first | (go_simp; done) | (go_simp; rfl)) ?_
          (try simp only [Exit.inBlock, Exit.then])
          go_wp2_with fail
          go_roundw
          case rel =>
           replace hrx := hrx.pu hp
           replace hry := hry.pu hp
           replace hres := hres.pu hp
           replace hro := hro.pu hp
           replace hbel := hbel.trans (Below.mono hp hbel.size)
           have h1 := hro.set i (.int .u64 (v : Int))
           rw [us_set, HS.out] at h1
           have h2 := hrx.setOther (⟨w.heap.size + 3, i, none⟩ : Addr) (.int .u64 (v : Int)) (by simp)
           have h3 := hry.setOther (⟨w.heap.size + 3, i, none⟩ : Addr) (.int .u64 (v : Int)) (by simp)
           have h4 := hres.setOther (⟨w.heap.size + 3, i, none⟩ : Addr) (.int .u64 (v : Int)) (by simp)
           have h5 := hbel.setCell (p := (⟨w.heap.size + 3, i, none⟩ : Addr)) (by simp) (.int .u64 (v : Int))
           first | exact ⟨j + 1, by omega, by go_num, h2, h3, h4, h1, h5⟩ | ((repeat apply Exists.intro); exact ⟨⟨j + 1, by omega, by go_num, h2, h3, h4, h1, h5⟩, rfl⟩)
          case measure => simp [intOf]; omega
     · obtain rfl : j = 5 := by omega
       rw [mulAt_next _ _ _ hlt] at hro
       go_wp2_with fail
       go_roundw
       case rel => first | exact ⟨i + 1, by omega, by go_num, hrx, hry, hres, hro, hbel⟩ | ((repeat apply Exists.intro); exact ⟨⟨i + 1, by omega, by go_num, hrx, hry, hres, hro, hbel⟩, rfl⟩)
       case measure => simp [intOf]; omega
  · obtain rfl : i = 5 := by omega
    have hmb := (mulN_le hxb hyb).mono (b := 4611686018427387903) (by decide)
    rw [show mulAt x y 5 0 = mulN x y from rfl] at hro
    obtain ⟨m, hm⟩ : ∃ m, m = mulN x y := ⟨_, rfl⟩
    rw [← hm] at hro hmb
    have hx := hro
    obtain ⟨mv, hmv⟩ : ∃ z, z = us m := ⟨_, rfl⟩
    have hmv5 : mv.length = 5 := by rw [hmv, us_length]; exact hmb.1
    obtain ⟨z, hz⟩ : ∃ z, z = us (carryN m) := ⟨_, rfl⟩
    have hz5 : z.length = 5 := by rw [hz, us_length, carryN, passes_length]; exact hmb.1
    have hz1 : z.all (·.oneCell') = true := by rw [hz]; exact us_one _
    have htk : ((z.drop 0).take 5) = z := by rw [List.drop_zero, List.take_of_length_le (by omega)]
    have htk2 : ((mv.drop 0).take 5) = mv := by rw [List.drop_zero, List.take_of_length_le (by omega)]
    rw [← hmv] at hx
    have hC := fun w => carryF m hmb mv z hmv hz w
    have hRz : R = z := by rw [HR.out, hz, hm]
    have HRZ := Lib.hid hRz
    have HC := Lib.hid hC
    clear hz hRz hrx hry hro hm hmv hC
    go_wp2_with (first
     | (refine wpList_load_part rfl 206 (.tmp 5) rfl (w.heap.size + 3) 0 5 (by rfl) hx Tryz.underlying206 rfl hi5 (by omega) ?_; rw [htk2])
     | (go_at_call 165; refine (HC.out _).mono ?_; rintro e w4 ⟨rfl, hp4⟩; replace hres := hres.pu hp4; replace hbel := hbel.trans (Below.mono hp4 hbel.size))
     | (refine wpList_store_part rfl 206 (.tmp 4) (.tmp 50) rfl (w.heap.size + 2) 0 z (by rfl) (by rfl) hres (by rw [hz5]; exact hi5) (by rw [hz5]; decide) hz1 ?_; intro wl hr1 hch))
    rw [splice_all (by rw [hz5]; rfl)] at hr1
    have hrl := hr1.load (P := Tryz.prog) 206 0 5 Tryz.underlying206 rfl hi5 (by omega)
    rw [htk] at hrl
    (try simp only [Exit.inBlock, Exit.then])
    refine bodyPost_ret (results_cell_eq rfl _ _ rfl hrl) rfl ?_
    exact ⟨by rw [HRZ.out], hch.below hbel (by omega)⟩
end Go.Proofs.YtoakccknimoogaaGreat
