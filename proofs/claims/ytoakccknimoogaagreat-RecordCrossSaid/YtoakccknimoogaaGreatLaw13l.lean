/- Chapter 13: RecordCross. -/
import Derived.Test.YtoakccknimoogaaGreatU12
import Derived.Test.YtoakccknimoogaaGreatTxt
set_option linter.unusedSimpArgs false
set_option linter.unusedVariables false
namespace Go.Proofs.YtoakccknimoogaaGreat
open Go.RowKit Go.Esc
theorem RefAt.parts {G : Nat → Prop} {B : Nat} {w : World} {ir : Nat} {key : Bs} {s : InS} (h : RefAt G B w ir key s) : ∃ vt a cap, Row w ir 33 [S key, .int .i64 (s.n : Int), .slice a s.c cap, vt] := by
  obtain ⟨l, vq, vt, h1, -, h3⟩ := h
  obtain ⟨a, cap, e, -⟩ := own_slice h1.oq
  refine ⟨vt, a, cap, ?_⟩
  rw [← h3, ← e]
  exact h1.row
set_option maxRecDepth 100000 in
set_option maxHeartbeats 3200000 in
theorem recordCross_walk {w : World} (s : ByteArray) (hs : s.size ≤ maxLen) (s' : ByteArray) (hs' : s'.size ≤ maxLen) (a : Option Addr) (len cap : Nat) (zs : List ByteArray) (hz : IsStrs w a len cap zs) :
    Calls Tryz.prog 4 #[.string s, .string s', .slice a len cap] w fun e w' => e = .returned (.bool true) ∧ Pu w w' := by
  obtain ⟨k0, rfl⟩ : ∃ a, s = bs a := ⟨_, bs_eta s⟩
  obtain ⟨k0', rfl⟩ : ∃ c, s' = bs c := ⟨_, bs_eta s'⟩
  have hk0 : k0.length ≤ 9223372036854775807 := by rw [bs_size] at hs; unfold maxLen at hs; omega
  have hk0' : k0'.length ≤ 9223372036854775807 := by rw [bs_size] at hs'; unfold maxLen at hs'; omega
  obtain ⟨L, hL, hlm⟩ := hz.txt
  clear hz hs hs'
  by_cases g1 : 20 < len
  · have q1 : (20 : Int) < len := by omega
    go_enter Tryz.func4, Tryz.ntmps4
    go_wp2_with (go_at_call 5; refine (alive13 _).mono ?_; rintro e w1 ⟨rfl, hp1⟩)
    go_ret
    exact ⟨rfl, hp1⟩
  have q1 : ¬ (20 : Int) < len := by omega
  have hll := hL.length
  have hln := hL.none
  have HL := Lib.hid hL
  have hf1 := fun w => fillAny k0 32 hk0 (by decide) w
  have hf2 := fun w => fillAny k0' 32 hk0' (by decide) w
  have hl1 := fillL_length k0 32
  have hl2 := fillL_length k0' 32
  obtain ⟨key1, he1⟩ : ∃ k, k = fillL k0 32 := ⟨_, rfl⟩
  obtain ⟨key2, he2⟩ : ∃ k, k = fillL k0' 32 := ⟨_, rfl⟩
  rw [← he1] at hf1 hl1
  rw [← he2] at hf2 hl2
  have HF1 := Lib.hid hf1
  have HF2 := Lib.hid hf2
  have HL1 := Lib.hid hl1
  have HL2 := Lib.hid hl2
  have hlen20 : len ≤ 20 := by omega
  have hkd : (bs key1 = bs key2) ↔ key1 = key2 := ⟨fun h => bs_inj h, fun h => by rw [h]⟩
  have HKD := Lib.hid hkd
  clear hL hf1 hf2 hl1 hl2 he1 he2 g1 hkd
  have T1 := Lib.hid True.intro
  go_enter Tryz.func4, Tryz.ntmps4
  go_wp2_with (first
    | (go_at_call 5; refine (alive13 _).mono ?_; rintro e w1 ⟨rfl, hp1⟩)
    | (go_at_call 6; clear T1; refine (HF1.out _).mono ?_; rintro e w2 ⟨rfl, rfl⟩)
    | (go_at_call 6; refine (HF2.out _).mono ?_; rintro e w2 ⟨rfl, rfl⟩)
    | (go_at_call 7; refine (newOut key1 HL1.out _).mono ?_; rintro e w3 ⟨ob, rfl, ho3, hp3⟩)
    | (go_at_call 8; refine (newIn key2 HL2.out _).mono ?_; rintro e w4 ⟨ib, rfl, hi4, hp4⟩
       obtain ⟨Go0, Gi0, oi4⟩ : ∃ Go Gi, OI Go Gi w w4 ob ib key1 key2 0 0 0 (inOrd 0) := ⟨_, _, OI.start (hp1.trans hp3) hp1 hp3 ho3 hi4 hp4⟩
       have hz4 := oi4.since.size
       have OI4 := Lib.hid oi4
       clear oi4 ho3 hi4))
  have hp5 := (Pu.refl w4).alloc (.cells #[S key2, .int .i64 0, .slice none 0 0, .slice none 0 0] 33)
  have cr0 : Cross Go0 Gi0 (Gw (fun _ => False) w4 (w4.alloc (.cells #[S key2, .int .i64 0, .slice none 0 0, .slice none 0 0] 33))) w (w4.alloc (.cells #[S key2, .int .i64 0, .slice none 0 0, .slice none 0 0] 33)) ob ib w4.heap.size key1 key2 0 0 0 (inOrd 0) (inOrd 0) := by
    refine ⟨OI4.out.pu hp5, ⟨[], .slice none 0 0, .slice none 0 0, ⟨Row.newAt _ _ _ _ (by simp) rfl, World.ownsRow_nil _ _ _ _, World.ownsRow_nil _ _ _ _, .inr ⟨by omega, by simp⟩, fun g h => (by cases h), fun g h => (by cases h), (by intro h; cases h), (by intro h; cases h), Gw.dom (fun _ h => h.elim) hp5.size, fun g hg => ?_⟩, Lk.nil, rfl⟩, fun g hg hh => ?_⟩
    · rcases hg with h1 | h1
      · exact h1.elim
      · omega
    · rcases hg with h1 | h1
      · exact h1
      · rcases hh with h2 | h2
        · have := OI4.out.o.dom _ h2; omega
        · have := OI4.out.i.dom _ h2; omega
  have CR0 := Lib.hid cr0
  clear cr0 hp5
  go_loopw [45, 11, 12, 14, 16, 13, 15, 17] (fun x _ _ _ _ _ _ _ wr => ∃ (n : Nat) (Go Gi Gr : Nat → Prop) (s : InS), n ≤ len ∧ x = .int .i64 (n : Int) ∧ Cross Go Gi Gr w wr ob ib w4.heap.size key1 key2 n n n s s ∧ s.c ≤ n ∧ (key1 = key2 → s = inOrd n)) (fun x _ _ _ _ _ _ _ _ => len - (intOf x).toNat)
  case atStart => exact ⟨0, _, _, _, inOrd 0, by omega, rfl, CR0.out, Nat.le_refl _, fun _ => rfl⟩
  case round =>
    clear CR0 OI4 hz4
    obtain ⟨n, Go, Gi, Gr, s, hn, rfl, cr, hsc, heq⟩ := hrel
    by_cases hlt : n < len
    · rcases a with _ | x
      · have := hln rfl; omega
      obtain ⟨t, ht⟩ : ∃ t, t = L[n]'(by omega) := ⟨_, rfl⟩
      have hc : wr.cell? (x.add n) = some (S t) := by
        have hT := (HL.out.keep cr.oi.since).cell x rfl n (by omega)
        rw [← ht] at hT
        exact hT.1
      have hi1 : (n : Int) < len := by omega
      have hi0 : (0 : Int) ≤ n := by omega
      clear ht
      by_cases h300 : 300 < t.length
      · have q5 : (300 : Int) < t.length := by omega
        go_wp2_with fail
        go_ret
        exact ⟨rfl, cr.oi.since⟩
      have q5 : ¬ (300 : Int) < t.length := by omega
      obtain ⟨pp, hpp⟩ := padL_short (p := t) (by omega)
      have hrl := recL_le key1 n hpp
      have hok := cr.oi.i.ok
      have hso : key1 = key2 → openS key2 s (recL key1 n t) = (0, [t], inOrd (n+1)) := fun h => by
        subst h
        rw [heq rfl]
        exact openS_ord key1 n t pp HL1.out hpp (by omega)
      obtain ⟨r, hr⟩ : ∃ r, r = recL key1 n t := ⟨_, rfl⟩
      rw [← hr] at hrl hso
      obtain ⟨o, hoe⟩ : ∃ o, o = openS key2 s r := ⟨_, rfl⟩
      have hoc := openS_c key2 s r
      have hol := openS_out key2 s r hok
      rw [← hoe] at hso hoc hol
      obtain ⟨f, told, s2⟩ := o
      have HR := Lib.hid hr
      have HO := Lib.hid hoe
      have HPP := Lib.hid hpp
      have HSO := Lib.hid hso
      have HEQ := Lib.hid heq
      have HOK := Lib.hid hok
      clear hr hoe hpp h300 hso heq hok
      simp only at hoc hol
      go_wp2_with (first
        | (go_at_call 9; refine (crossSeal cr HL1.out t _ HPP.out (by omega) (by omega) (by omega)).mono ?_; rw [← HR.out]; rintro e w7 ⟨rfl, cr7⟩)
        | (go_at_call 12; refine (crossOpen cr7 HL2.out r (by omega) (by omega)).mono ?_; rw [← HO.out]; rintro e w8 ⟨v8, rfl, ho8, cr8, hir⟩
           change World.ownsRow _ _ _ 1 v8 told.length _ at ho8
           change Cross _ _ _ _ _ _ _ _ _ _ _ _ _ s2 _ at cr8)
        | (go_at_call 13; refine (crossRef cr8 HOK.out (by omega) HL2.out r (by omega)).mono ?_; rw [← HO.out]; rintro e w9 ⟨v9, rfl, ho9, cr9, hc9⟩
           change World.ownsRow _ _ _ 1 v9 told.length _ at ho9
           change Cross _ _ _ _ _ _ _ _ _ _ _ _ _ s2 s2 at cr9
           have ho8' := own_cg ho8 hc9 (fun g hg hh => by have := (ho8.lt g hg).1; omega)
           have HO8 := Lib.hid ho8'
           have HO9 := Lib.hid ho9
           have CR9 := Lib.hid cr9
           have hpa := fun w' (hp : Pu w9 w') => (cr9.r.pu hp).parts
           obtain ⟨vt, aq, cq, hrw⟩ := cr9.r.parts
           have HRW := Lib.hid hrw
           clear ho8 ho8' ho9 cr9 hc9 hpa hrw cr8 cr7 cr))
      by_cases hkk : key1 = key2
      · have hf0 : f = 0 := by have := HSO.out hkk; cases this; rfl
        have hkb : bs key1 = bs key2 := HKD.out.2 hkk
        subst hf0
        apply region_pu (Φs := (Is _ :: Is _ :: Is _ :: Is _ :: Is _ :: Is _ :: Is _ :: Is _ :: Is _ :: Is _ :: Is _ :: Is _ :: Is _ :: Is _ :: Is _ :: Is _ :: Is _ :: Is _ :: Is _ :: Is _ :: Is _ :: Is _ :: Is _ :: Is _ :: Is _ :: Is _ :: Is _ :: Is _ :: Is _ :: Is _ :: Is _ :: Is _ :: Is _ :: Is _ :: Is _ :: Is _ :: Is _ :: Is _ :: Is _ :: Is _ :: Is _ :: [])) (hm := by kernel_rfl) (hE := by kernel_rfl) (hD := by kernel_rfl) (hsize := by kernel_rfl)
        case hop =>
          refine ⟨?_, ?_, ?_, ?_, ?_, ?_, ?_, ?_, ?_, ?_, ?_, ?_, ?_, ?_, ?_, ?_, ?_, ?_, ?_, ?_, ?_, ?_, ?_, ?_, ?_, ?_, ?_, ?_, ?_, ?_, ?_, ?_, ?_, ?_, ?_, ?_, ?_, ?_, ?_, ?_, ?_, trivial⟩
          · intro a' w' hs hp he
            have e13 := hs 13 (by kernel_rfl)
            try simp [Is, Region.binds] at he
            exact op_val rfl (wanted_none rfl) (by first | (go_simp; done) | (go_simp; rfl) | (simp [execOp, Act.eval, go_sem, *]; done) | (simp [execOp, Act.eval, go_sem, *]; rfl)) rfl (Pu.refl _)
          · intro a' w' hs hp he
            try simp [Is, Region.binds] at he
            exact op_val rfl (wanted_none rfl) (by first | (go_simp; done) | (go_simp; rfl) | (simp [execOp, Act.eval, go_sem, *]; done) | (simp [execOp, Act.eval, go_sem, *]; rfl)) rfl (Pu.refl _)
          · intro a' w' hs hp he
            try simp [Is, Region.binds] at he
            exact op_val rfl (wanted_none rfl) (by first | (go_simp; done) | (go_simp; rfl) | (simp [execOp, Act.eval, go_sem, *]; done) | (simp [execOp, Act.eval, go_sem, *]; rfl)) rfl (Pu.refl _)
          · intro a' w' hs hp he
            have e15 := hs 15 (by kernel_rfl)
            try simp [Is, Region.binds] at he
            first | exact op_skip rfl ((wanted_some rfl rfl (by first | (simp [he]; done) | (simp [he]; rfl))).trans rfl) rfl | exact op_val rfl ((wanted_some rfl rfl (by first | (simp [he]; done) | (simp [he]; rfl))).trans rfl) (by first | (go_simp; done) | (go_simp; rfl) | (simp [execOp, Act.eval, go_sem, *]; done) | (simp [execOp, Act.eval, go_sem, *]; rfl)) rfl (Pu.refl _)
          · intro a' w' hs hp he
            have e17 := hs 17 (by kernel_rfl)
            try simp [Is, Region.binds] at he
            first | exact op_skip rfl ((wanted_some rfl rfl (by first | (simp [he]; done) | (simp [he]; rfl))).trans rfl) rfl | exact op_val rfl ((wanted_some rfl rfl (by first | (simp [he]; done) | (simp [he]; rfl))).trans rfl) (by first | (go_simp; done) | (go_simp; rfl) | (simp [execOp, Act.eval, go_sem, *]; done) | (simp [execOp, Act.eval, go_sem, *]; rfl)) rfl (Pu.refl _)
          · intro a' w' hs hp he
            try simp [Is, Region.binds] at he
            first | exact op_skip rfl ((wanted_some rfl rfl (by first | (simp [he]; done) | (simp [he]; rfl))).trans rfl) rfl | exact op_val rfl ((wanted_some rfl rfl (by first | (simp [he]; done) | (simp [he]; rfl))).trans rfl) (by first | (go_simp; done) | (go_simp; rfl) | (simp [execOp, Act.eval, go_sem, *]; done) | (simp [execOp, Act.eval, go_sem, *]; rfl)) rfl (Pu.refl _)
          · intro a' w' hs hp he
            try simp [Is, Region.binds] at he
            exact op_val rfl (wanted_none rfl) (by first | (go_simp; done) | (go_simp; rfl) | (simp [execOp, Act.eval, go_sem, *]; done) | (simp [execOp, Act.eval, go_sem, *]; rfl)) rfl (Pu.refl _)
          · intro a' w' hs hp he
            try simp [Is, Region.binds] at he
            exact op_val rfl (wanted_none rfl) (by first | (go_simp; done) | (go_simp; rfl) | (simp [execOp, Act.eval, go_sem, *]; done) | (simp [execOp, Act.eval, go_sem, *]; rfl)) rfl (Pu.refl _)
          · intro a' w' hs hp he
            have e14 := hs 14 (by kernel_rfl)
            try simp [Is, Region.binds] at he
            first | exact op_skip rfl ((wanted_some rfl rfl (by first | (simp [he]; done) | (simp [he]; rfl))).trans rfl) rfl | exact op_val rfl ((wanted_some rfl rfl (by first | (simp [he]; done) | (simp [he]; rfl))).trans rfl) (by first | (go_simp; done) | (go_simp; rfl) | (simp [execOp, Act.eval, go_sem, *]; done) | (simp [execOp, Act.eval, go_sem, *]; rfl)) rfl (Pu.refl _)
          · intro a' w' hs hp he
            have e16 := hs 16 (by kernel_rfl)
            try simp [Is, Region.binds] at he
            first | exact op_skip rfl ((wanted_some rfl rfl (by first | (simp [he]; done) | (simp [he]; rfl))).trans rfl) rfl | exact op_val rfl ((wanted_some rfl rfl (by first | (simp [he]; done) | (simp [he]; rfl))).trans rfl) (by first | (go_simp; done) | (go_simp; rfl) | (simp [execOp, Act.eval, go_sem, *]; done) | (simp [execOp, Act.eval, go_sem, *]; rfl)) rfl (Pu.refl _)
          · intro a' w' hs hp he
            try simp [Is, Region.binds] at he
            exact op_callP ((sameTexts told told.length rfl (own_below HO8.out hp) (own_below HO9.out hp) (by omega)).mono (by rintro e w' ⟨rfl, h⟩; exact ⟨rfl, h⟩)) rfl ((wanted_some rfl rfl (by first | (simp [he]; done) | (simp [he]; rfl))).trans rfl) (by first | (go_simp; done) | (go_simp; rfl)) (fun _ => rfl)
          · intro a' w' hs hp he
            try simp [Is, Region.binds] at he
            first | exact op_skip rfl ((wanted_some rfl rfl (by first | (simp [he]; done) | (simp [he]; rfl))).trans rfl) rfl | exact op_val rfl ((wanted_some rfl rfl (by first | (simp [he]; done) | (simp [he]; rfl))).trans rfl) (by first | (go_simp; done) | (go_simp; rfl) | (simp [execOp, Act.eval, go_sem, *]; done) | (simp [execOp, Act.eval, go_sem, *]; rfl)) rfl (Pu.refl _)
          · intro a' w' hs hp he
            try simp [Is, Region.binds] at he
            exact op_val rfl (wanted_none rfl) (by first | (go_simp; done) | (go_simp; rfl) | (simp [execOp, Act.eval, go_sem, *]; done) | (simp [execOp, Act.eval, go_sem, *]; rfl)) rfl (Pu.refl _)
          · intro a' w' hs hp he
            try simp [Is, Region.binds] at he
            exact op_val rfl (wanted_none rfl) (by first | (go_simp; done) | (go_simp; rfl) | (simp [execOp, Act.eval, go_sem, *]; done) | (simp [execOp, Act.eval, go_sem, *]; rfl)) rfl (Pu.refl _)
          · intro a' w' hs hp he
            have e8 := hs 8 (by kernel_rfl)
            try simp [Is, Region.binds] at he
            first | exact op_skip rfl ((wanted_some rfl rfl (by first | (simp [he]; done) | (simp [he]; rfl))).trans rfl) rfl | exact op_val rfl ((wanted_some rfl rfl (by first | (simp [he]; done) | (simp [he]; rfl))).trans rfl) (by first | (go_simp; done) | (go_simp; rfl) | (simp [execOp, Act.eval, go_sem, *]; done) | (simp [execOp, Act.eval, go_sem, *]; rfl)) rfl (Pu.refl _)
          · intro a' w' hs hp he
            try simp [Is, Region.binds] at he
            exact op_callP ((inNext ((CR9.out.pu hp).oi.i)).mono (by rintro e w' ⟨rfl, rfl⟩; exact ⟨rfl, Pu.refl _⟩)) rfl ((wanted_some rfl rfl (by first | (simp [he]; done) | (simp [he]; rfl))).trans rfl) (by first | (go_simp; done) | (go_simp; rfl)) (fun _ => rfl)
          · intro a' w' hs hp he
            have e9 := hs 9 (by kernel_rfl)
            try simp [Is, Region.binds] at he
            first | exact op_skip rfl ((wanted_some rfl rfl (by first | (simp [he]; done) | (simp [he]; rfl))).trans rfl) rfl | exact op_val rfl ((wanted_some rfl rfl (by first | (simp [he]; done) | (simp [he]; rfl))).trans rfl) (by first | (go_simp; done) | (go_simp; rfl) | (simp [execOp, Act.eval, go_sem, *]; done) | (simp [execOp, Act.eval, go_sem, *]; rfl)) rfl (Pu.refl _)
          · intro a' w' hs hp he
            try simp [Is, Region.binds] at he
            first | exact op_skip rfl ((wanted_some rfl rfl (by first | (simp [he]; done) | (simp [he]; rfl))).trans rfl) rfl | exact op_val rfl ((wanted_some rfl rfl (by first | (simp [he]; done) | (simp [he]; rfl))).trans rfl) (by first | (go_simp; done) | (go_simp; rfl) | (simp [execOp, Act.eval, go_sem, *]; done) | (simp [execOp, Act.eval, go_sem, *]; rfl)) rfl (Pu.refl _)
          · intro a' w' hs hp he
            try simp [Is, Region.binds] at he
            first | exact op_skip rfl ((wanted_some rfl rfl (by first | (simp [he]; done) | (simp [he]; rfl))).trans rfl) rfl | exact op_val rfl ((wanted_some rfl rfl (by first | (simp [he]; done) | (simp [he]; rfl))).trans rfl) (by first | (go_simp; done) | (go_simp; rfl) | (simp [execOp, Act.eval, go_sem, *]; done) | (simp [execOp, Act.eval, go_sem, *]; rfl)) rfl (Pu.refl _)
          · intro a' w' hs hp he
            try simp [Is, Region.binds] at he
            have c1 := (HRW.out.pu hp).cell' 1 (by simp); simp at c1; exact op_val rfl ((wanted_some rfl rfl (by first | (simp [he]; done) | (simp [he]; rfl))).trans rfl) (by first | (go_simp; done) | (go_simp; rfl)) rfl (Pu.refl _)
          · intro a' w' hs hp he
            try simp [Is, Region.binds] at he
            first | exact op_skip rfl ((wanted_some rfl rfl (by first | (simp [he]; done) | (simp [he]; rfl))).trans rfl) rfl | exact op_val rfl ((wanted_some rfl rfl (by first | (simp [he]; done) | (simp [he]; rfl))).trans rfl) (by first | (go_simp; done) | (go_simp; rfl) | (simp [execOp, Act.eval, go_sem, *]; done) | (simp [execOp, Act.eval, go_sem, *]; rfl)) rfl (Pu.refl _)
          · intro a' w' hs hp he
            try simp [Is, Region.binds] at he
            exact op_val rfl (wanted_none rfl) (by first | (go_simp; done) | (go_simp; rfl) | (simp [execOp, Act.eval, go_sem, *]; done) | (simp [execOp, Act.eval, go_sem, *]; rfl)) rfl (Pu.refl _)
          · intro a' w' hs hp he
            try simp [Is, Region.binds] at he
            exact op_val rfl (wanted_none rfl) (by first | (go_simp; done) | (go_simp; rfl) | (simp [execOp, Act.eval, go_sem, *]; done) | (simp [execOp, Act.eval, go_sem, *]; rfl)) rfl (Pu.refl _)
          · intro a' w' hs hp he
            have e8 := hs 8 (by kernel_rfl)
            try simp [Is, Region.binds] at he
            first | exact op_skip rfl ((wanted_some rfl rfl (by first | (simp [he]; done) | (simp [he]; rfl))).trans rfl) rfl | exact op_val rfl ((wanted_some rfl rfl (by first | (simp [he]; done) | (simp [he]; rfl))).trans rfl) (by first | (go_simp; done) | (go_simp; rfl) | (simp [execOp, Act.eval, go_sem, *]; done) | (simp [execOp, Act.eval, go_sem, *]; rfl)) rfl (Pu.refl _)
          · intro a' w' hs hp he
            try simp [Is, Region.binds] at he
            exact op_callP ((inWaits ((CR9.out.pu hp).oi.i)).mono (by rintro e w' ⟨rfl, rfl⟩; exact ⟨rfl, Pu.refl _⟩)) rfl ((wanted_some rfl rfl (by first | (simp [he]; done) | (simp [he]; rfl))).trans rfl) (by first | (go_simp; done) | (go_simp; rfl)) (fun _ => rfl)
          · intro a' w' hs hp he
            have e9 := hs 9 (by kernel_rfl)
            try simp [Is, Region.binds] at he
            first | exact op_skip rfl ((wanted_some rfl rfl (by first | (simp [he]; done) | (simp [he]; rfl))).trans rfl) rfl | exact op_val rfl ((wanted_some rfl rfl (by first | (simp [he]; done) | (simp [he]; rfl))).trans rfl) (by first | (go_simp; done) | (go_simp; rfl) | (simp [execOp, Act.eval, go_sem, *]; done) | (simp [execOp, Act.eval, go_sem, *]; rfl)) rfl (Pu.refl _)
          · intro a' w' hs hp he
            try simp [Is, Region.binds] at he
            first | exact op_skip rfl ((wanted_some rfl rfl (by first | (simp [he]; done) | (simp [he]; rfl))).trans rfl) rfl | exact op_val rfl ((wanted_some rfl rfl (by first | (simp [he]; done) | (simp [he]; rfl))).trans rfl) (by first | (go_simp; done) | (go_simp; rfl) | (simp [execOp, Act.eval, go_sem, *]; done) | (simp [execOp, Act.eval, go_sem, *]; rfl)) rfl (Pu.refl _)
          · intro a' w' hs hp he
            try simp [Is, Region.binds] at he
            first | exact op_skip rfl ((wanted_some rfl rfl (by first | (simp [he]; done) | (simp [he]; rfl))).trans rfl) rfl | exact op_val rfl ((wanted_some rfl rfl (by first | (simp [he]; done) | (simp [he]; rfl))).trans rfl) (by first | (go_simp; done) | (go_simp; rfl) | (simp [execOp, Act.eval, go_sem, *]; done) | (simp [execOp, Act.eval, go_sem, *]; rfl)) rfl (Pu.refl _)
          · intro a' w' hs hp he
            try simp [Is, Region.binds] at he
            have c1 := (HRW.out.pu hp).cell' 2 (by simp); simp at c1; exact op_val rfl ((wanted_some rfl rfl (by first | (simp [he]; done) | (simp [he]; rfl))).trans rfl) (by first | (go_simp; done) | (go_simp; rfl)) rfl (Pu.refl _)
          · intro a' w' hs hp he
            try simp [Is, Region.binds] at he
            first | exact op_skip rfl ((wanted_some rfl rfl (by first | (simp [he]; done) | (simp [he]; rfl))).trans rfl) rfl | exact op_val rfl ((wanted_some rfl rfl (by first | (simp [he]; done) | (simp [he]; rfl))).trans rfl) (by first | (go_simp; done) | (go_simp; rfl) | (simp [execOp, Act.eval, go_sem, *]; done) | (simp [execOp, Act.eval, go_sem, *]; rfl)) rfl (Pu.refl _)
          · intro a' w' hs hp he
            try simp [Is, Region.binds] at he
            first | exact op_skip rfl ((wanted_some rfl rfl (by first | (simp [he]; done) | (simp [he]; rfl))).trans rfl) rfl | exact op_val rfl ((wanted_some rfl rfl (by first | (simp [he]; done) | (simp [he]; rfl))).trans rfl) (by first | (go_simp; done) | (go_simp; rfl) | (simp [execOp, Act.eval, go_sem, *]; done) | (simp [execOp, Act.eval, go_sem, *]; rfl)) rfl (Pu.refl _)
          · intro a' w' hs hp he
            try simp [Is, Region.binds] at he
            exact op_val rfl (wanted_none rfl) (by first | (go_simp; done) | (go_simp; rfl) | (simp [execOp, Act.eval, go_sem, *]; done) | (simp [execOp, Act.eval, go_sem, *]; rfl)) rfl (Pu.refl _)
          · intro a' w' hs hp he
            try simp [Is, Region.binds] at he
            exact op_val rfl (wanted_none rfl) (by first | (go_simp; done) | (go_simp; rfl) | (simp [execOp, Act.eval, go_sem, *]; done) | (simp [execOp, Act.eval, go_sem, *]; rfl)) rfl (Pu.refl _)
          · intro a' w' hs hp he
            have e0 := hs 0 (by kernel_rfl)
            try simp [Is, Region.binds] at he
            first | exact op_skip rfl ((wanted_some rfl rfl (by first | (simp [he]; done) | (simp [he]; rfl))).trans rfl) rfl | exact op_val rfl ((wanted_some rfl rfl (by first | (simp [he]; done) | (simp [he]; rfl))).trans rfl) (by first | (go_simp; done) | (go_simp; rfl) | (simp [execOp, Act.eval, go_sem, *]; done) | (simp [execOp, Act.eval, go_sem, *]; rfl)) rfl (Pu.refl _)
          · intro a' w' hs hp he
            have e1 := hs 1 (by kernel_rfl)
            try simp [Is, Region.binds] at he
            first | exact op_skip rfl ((wanted_some rfl rfl (by first | (simp [he]; done) | (simp [he]; rfl))).trans rfl) rfl | exact op_val rfl ((wanted_some rfl rfl (by first | (simp [he]; done) | (simp [he]; rfl))).trans rfl) (by first | (go_simp; done) | (go_simp; rfl) | (simp [execOp, Act.eval, go_sem, *]; done) | (simp [execOp, Act.eval, go_sem, *]; rfl)) rfl (Pu.refl _)
          · intro a' w' hs hp he
            try simp [Is, Region.binds] at he
            first | exact op_skip rfl ((wanted_some rfl rfl (by first | (simp [he]; done) | (simp [he]; rfl))).trans rfl) rfl | exact op_val rfl ((wanted_some rfl rfl (by first | (simp [he]; done) | (simp [he]; rfl))).trans rfl) (by first | (go_simp; done) | (go_simp; rfl) | (simp [execOp, Act.eval, go_sem, *]; done) | (simp [execOp, Act.eval, go_sem, *]; rfl)) rfl (Pu.refl _)
          · intro a' w' hs hp he
            try simp [Is, Region.binds] at he
            first | exact op_skip rfl ((wanted_some rfl rfl (by first | (simp [he]; done) | (simp [he]; rfl))).trans rfl) rfl | exact op_val rfl ((wanted_some rfl rfl (by first | (simp [he]; done) | (simp [he]; rfl))).trans rfl) (by first | (go_simp; done) | (go_simp; rfl) | (simp [execOp, Act.eval, go_sem, *]; done) | (simp [execOp, Act.eval, go_sem, *]; rfl)) rfl (Pu.refl _)
          · intro a' w' hs hp he
            have e15 := hs 15 (by kernel_rfl)
            try simp [Is, Region.binds] at he
            first | exact op_skip rfl ((wanted_some rfl rfl (by first | (simp [he]; done) | (simp [he]; rfl))).trans rfl) rfl | exact op_val rfl ((wanted_some rfl rfl (by first | (simp [he]; done) | (simp [he]; rfl))).trans rfl) (by first | (go_simp; done) | (go_simp; rfl) | (simp [execOp, Act.eval, go_sem, *]; done) | (simp [execOp, Act.eval, go_sem, *]; rfl)) rfl (Pu.refl _)
          · intro a' w' hs hp he
            try simp [Is, Region.binds] at he
            first | exact op_skip rfl ((wanted_some rfl rfl (by first | (simp [he]; done) | (simp [he]; rfl))).trans rfl) rfl | exact op_val rfl ((wanted_some rfl rfl (by first | (simp [he]; done) | (simp [he]; rfl))).trans rfl) (by first | (go_simp; done) | (go_simp; rfl) | (simp [execOp, Act.eval, go_sem, *]; done) | (simp [execOp, Act.eval, go_sem, *]; rfl)) rfl (Pu.refl _)
          · intro a' w' hs hp he
            try simp [Is, Region.binds] at he
            first | exact op_skip rfl ((wanted_some rfl rfl (by first | (simp [he]; done) | (simp [he]; rfl))).trans rfl) rfl | exact op_val rfl ((wanted_some rfl rfl (by first | (simp [he]; done) | (simp [he]; rfl))).trans rfl) (by first | (go_simp; done) | (go_simp; rfl) | (simp [execOp, Act.eval, go_sem, *]; done) | (simp [execOp, Act.eval, go_sem, *]; rfl)) rfl (Pu.refl _)
          · intro a' w' hs hp he
            try simp [Is, Region.binds] at he
            exact op_val rfl (wanted_none rfl) (by first | (go_simp; done) | (go_simp; rfl) | (simp [execOp, Act.eval, go_sem, *]; done) | (simp [execOp, Act.eval, go_sem, *]; rfl)) rfl (Pu.refl _)
        case hend =>
          intro a' w' hdef hsz hs hp hall
          obtain ⟨r0, r1, r2, r3, r4, r5, r6, r7, r8, r9, r10, r11, r12, r13, r14, r15, r16, r17, r18, r19, r20, r21, r22, r23, r24, r25, r26, r27, r28, r29, r30, r31, r32, r33, r34, r35, r36, r37, r38, r39, r40, -⟩ := hall
          have hA := agree_done (agree_step (agree_step (agree_step (agree_step (agree_step (agree_step (agree_step (agree_step (agree_step (agree_step (agree_step (agree_step (agree_step (agree_step (agree_step (agree_step (agree_step (agree_step (agree_step (agree_step (agree_step (agree_step (agree_step (agree_step (agree_step (agree_step (agree_step (agree_step (agree_step (agree_step (agree_step (agree_step (agree_step (agree_step (agree_step (agree_step (agree_step (agree_step (agree_step (agree_step (agree_step (agree_init [70, 71, 72, 73, 74, 75, 76, 77, 78, 79, 80, 81, 82, 83, 84, 85, 86, 87, 88, 89, 90, 91, 92, 93, 94, 95, 96, 97, 98, 99, 100, 101, 102, 103, 104, 105, 106, 107, 108, 109, 110] hsz hs (by kernel_rfl)) r0) r1) r2) r3) r4) r5) r6) r7) r8) r9) r10) r11) r12) r13) r14) r15) r16) r17) r18) r19) r20) r21) r22) r23) r24) r25) r26) r27) r28) r29) r30) r31) r32) r33) r34) r35) r36) r37) r38) r39) r40)
          have ha := act_of hA hdef
          rw [ha]
          clear ha hA hs hsz hdef r0 r1 r2 r3 r4 r5 r6 r7 r8 r9 r10 r11 r12 r13 r14 r15 r16 r17 r18 r19 r20 r21 r22 r23 r24 r25 r26 r27 r28 r29 r30 r31 r32 r33 r34 r35 r36 r37 r38 r39 r40 
          (try simp only [List.setIfInBounds_toArray])
          (try dsimp only [List.set_cons_zero, List.set_cons_succ])
          (try simp only [Exit.then])
          have hpp := hp
          clear hp
          go_wp2_with fail
          go_roundw
          case rel => exact ⟨n + 1, _, _, _, s2, by omega, by go_num, CR9.out.pu hpp, by omega, fun h => by have := HSO.out h; cases this; rfl⟩
          case measure => simp [intOf]; omega
      · have hkb : ¬ bs key1 = bs key2 := fun h => hkk (HKD.out.1 h)
        have hkb2 : (key1 == key2) = false := by simp [hkk]
        apply region_pu (Φs := (Is _ :: Is _ :: Is _ :: Is _ :: Is _ :: Is _ :: Is _ :: Is _ :: Is _ :: Is _ :: Is _ :: Is _ :: Is _ :: Is _ :: Is _ :: Is _ :: Is _ :: Is _ :: Is _ :: Is _ :: Is _ :: Is _ :: Is _ :: Is _ :: Is _ :: Is _ :: Is _ :: Is _ :: Is _ :: Is _ :: Is _ :: Is _ :: Is _ :: Is _ :: Is _ :: Is _ :: Is _ :: Is _ :: Is _ :: Is _ :: Is _ :: [])) (hm := by kernel_rfl) (hE := by kernel_rfl) (hD := by kernel_rfl) (hsize := by kernel_rfl)
        case hop =>
          refine ⟨?_, ?_, ?_, ?_, ?_, ?_, ?_, ?_, ?_, ?_, ?_, ?_, ?_, ?_, ?_, ?_, ?_, ?_, ?_, ?_, ?_, ?_, ?_, ?_, ?_, ?_, ?_, ?_, ?_, ?_, ?_, ?_, ?_, ?_, ?_, ?_, ?_, ?_, ?_, ?_, ?_, trivial⟩
          · intro a' w' hs hp he
            have e13 := hs 13 (by kernel_rfl)
            try simp [Is, Region.binds] at he
            exact op_val rfl (wanted_none rfl) (by first | (go_simp; done) | (go_simp; rfl) | (simp [execOp, Act.eval, go_sem, *]; done) | (simp [execOp, Act.eval, go_sem, *]; rfl)) rfl (Pu.refl _)
          · intro a' w' hs hp he
            try simp [Is, Region.binds] at he
            exact op_val rfl (wanted_none rfl) (by first | (go_simp; done) | (go_simp; rfl) | (simp [execOp, Act.eval, go_sem, *]; done) | (simp [execOp, Act.eval, go_sem, *]; rfl)) rfl (Pu.refl _)
          · intro a' w' hs hp he
            try simp [Is, Region.binds] at he
            exact op_val rfl (wanted_none rfl) (by first | (go_simp; done) | (go_simp; rfl) | (simp [execOp, Act.eval, go_sem, *]; done) | (simp [execOp, Act.eval, go_sem, *]; rfl)) rfl (Pu.refl _)
          · intro a' w' hs hp he
            have e15 := hs 15 (by kernel_rfl)
            try simp [Is, Region.binds] at he
            first | exact op_skip rfl ((wanted_some rfl rfl (by first | (simp [he]; done) | (simp [he]; rfl))).trans rfl) rfl | exact op_val rfl ((wanted_some rfl rfl (by first | (simp [he]; done) | (simp [he]; rfl))).trans rfl) (by first | (go_simp; done) | (go_simp; rfl) | (simp [execOp, Act.eval, go_sem, *]; done) | (simp [execOp, Act.eval, go_sem, *]; rfl)) rfl (Pu.refl _)
          · intro a' w' hs hp he
            have e17 := hs 17 (by kernel_rfl)
            try simp [Is, Region.binds] at he
            first | exact op_skip rfl ((wanted_some rfl rfl (by first | (simp [he]; done) | (simp [he]; rfl))).trans rfl) rfl | exact op_val rfl ((wanted_some rfl rfl (by first | (simp [he]; done) | (simp [he]; rfl))).trans rfl) (by first | (go_simp; done) | (go_simp; rfl) | (simp [execOp, Act.eval, go_sem, *]; done) | (simp [execOp, Act.eval, go_sem, *]; rfl)) rfl (Pu.refl _)
          · intro a' w' hs hp he
            try simp [Is, Region.binds] at he
            first | exact op_skip rfl ((wanted_some rfl rfl (by first | (simp [he]; done) | (simp [he]; rfl))).trans rfl) rfl | exact op_val rfl ((wanted_some rfl rfl (by first | (simp [he]; done) | (simp [he]; rfl))).trans rfl) (by first | (go_simp; done) | (go_simp; rfl) | (simp [execOp, Act.eval, go_sem, *]; done) | (simp [execOp, Act.eval, go_sem, *]; rfl)) rfl (Pu.refl _)
          · intro a' w' hs hp he
            try simp [Is, Region.binds] at he
            exact op_val rfl (wanted_none rfl) (by first | (go_simp; done) | (go_simp; rfl) | (simp [execOp, Act.eval, go_sem, *]; done) | (simp [execOp, Act.eval, go_sem, *]; rfl)) rfl (Pu.refl _)
          · intro a' w' hs hp he
            try simp [Is, Region.binds] at he
            exact op_val rfl (wanted_none rfl) (by first | (go_simp; done) | (go_simp; rfl) | (simp [execOp, Act.eval, go_sem, *]; done) | (simp [execOp, Act.eval, go_sem, *]; rfl)) rfl (Pu.refl _)
          · intro a' w' hs hp he
            have e14 := hs 14 (by kernel_rfl)
            try simp [Is, Region.binds] at he
            first | exact op_skip rfl ((wanted_some rfl rfl (by first | (simp [he]; done) | (simp [he]; rfl))).trans rfl) rfl | exact op_val rfl ((wanted_some rfl rfl (by first | (simp [he]; done) | (simp [he]; rfl))).trans rfl) (by first | (go_simp; done) | (go_simp; rfl) | (simp [execOp, Act.eval, go_sem, *]; done) | (simp [execOp, Act.eval, go_sem, *]; rfl)) rfl (Pu.refl _)
          · intro a' w' hs hp he
            have e16 := hs 16 (by kernel_rfl)
            try simp [Is, Region.binds] at he
            first | exact op_skip rfl ((wanted_some rfl rfl (by first | (simp [he]; done) | (simp [he]; rfl))).trans rfl) rfl | exact op_val rfl ((wanted_some rfl rfl (by first | (simp [he]; done) | (simp [he]; rfl))).trans rfl) (by first | (go_simp; done) | (go_simp; rfl) | (simp [execOp, Act.eval, go_sem, *]; done) | (simp [execOp, Act.eval, go_sem, *]; rfl)) rfl (Pu.refl _)
          · intro a' w' hs hp he
            try simp [Is, Region.binds] at he
            exact op_callP ((sameTexts told told.length rfl (own_below HO8.out hp) (own_below HO9.out hp) (by omega)).mono (by rintro e w' ⟨rfl, h⟩; exact ⟨rfl, h⟩)) rfl ((wanted_some rfl rfl (by first | (simp [he]; done) | (simp [he]; rfl))).trans rfl) (by first | (go_simp; done) | (go_simp; rfl)) (fun _ => rfl)
          · intro a' w' hs hp he
            try simp [Is, Region.binds] at he
            first | exact op_skip rfl ((wanted_some rfl rfl (by first | (simp [he]; done) | (simp [he]; rfl))).trans rfl) rfl | exact op_val rfl ((wanted_some rfl rfl (by first | (simp [he]; done) | (simp [he]; rfl))).trans rfl) (by first | (go_simp; done) | (go_simp; rfl) | (simp [execOp, Act.eval, go_sem, *]; done) | (simp [execOp, Act.eval, go_sem, *]; rfl)) rfl (Pu.refl _)
          · intro a' w' hs hp he
            try simp [Is, Region.binds] at he
            exact op_val rfl (wanted_none rfl) (by first | (go_simp; done) | (go_simp; rfl) | (simp [execOp, Act.eval, go_sem, *]; done) | (simp [execOp, Act.eval, go_sem, *]; rfl)) rfl (Pu.refl _)
          · intro a' w' hs hp he
            try simp [Is, Region.binds] at he
            exact op_val rfl (wanted_none rfl) (by first | (go_simp; done) | (go_simp; rfl) | (simp [execOp, Act.eval, go_sem, *]; done) | (simp [execOp, Act.eval, go_sem, *]; rfl)) rfl (Pu.refl _)
          · intro a' w' hs hp he
            have e8 := hs 8 (by kernel_rfl)
            try simp [Is, Region.binds] at he
            first | exact op_skip rfl ((wanted_some rfl rfl (by first | (simp [he]; done) | (simp [he]; rfl))).trans rfl) rfl | exact op_val rfl ((wanted_some rfl rfl (by first | (simp [he]; done) | (simp [he]; rfl))).trans rfl) (by first | (go_simp; done) | (go_simp; rfl) | (simp [execOp, Act.eval, go_sem, *]; done) | (simp [execOp, Act.eval, go_sem, *]; rfl)) rfl (Pu.refl _)
          · intro a' w' hs hp he
            try simp [Is, Region.binds] at he
            exact op_callP ((inNext ((CR9.out.pu hp).oi.i)).mono (by rintro e w' ⟨rfl, rfl⟩; exact ⟨rfl, Pu.refl _⟩)) rfl ((wanted_some rfl rfl (by first | (simp [he]; done) | (simp [he]; rfl))).trans rfl) (by first | (go_simp; done) | (go_simp; rfl)) (fun _ => rfl)
          · intro a' w' hs hp he
            have e9 := hs 9 (by kernel_rfl)
            try simp [Is, Region.binds] at he
            first | exact op_skip rfl ((wanted_some rfl rfl (by first | (simp [he]; done) | (simp [he]; rfl))).trans rfl) rfl | exact op_val rfl ((wanted_some rfl rfl (by first | (simp [he]; done) | (simp [he]; rfl))).trans rfl) (by first | (go_simp; done) | (go_simp; rfl) | (simp [execOp, Act.eval, go_sem, *]; done) | (simp [execOp, Act.eval, go_sem, *]; rfl)) rfl (Pu.refl _)
          · intro a' w' hs hp he
            try simp [Is, Region.binds] at he
            first | exact op_skip rfl ((wanted_some rfl rfl (by first | (simp [he]; done) | (simp [he]; rfl))).trans rfl) rfl | exact op_val rfl ((wanted_some rfl rfl (by first | (simp [he]; done) | (simp [he]; rfl))).trans rfl) (by first | (go_simp; done) | (go_simp; rfl) | (simp [execOp, Act.eval, go_sem, *]; done) | (simp [execOp, Act.eval, go_sem, *]; rfl)) rfl (Pu.refl _)
          · intro a' w' hs hp he
            try simp [Is, Region.binds] at he
            first | exact op_skip rfl ((wanted_some rfl rfl (by first | (simp [he]; done) | (simp [he]; rfl))).trans rfl) rfl | exact op_val rfl ((wanted_some rfl rfl (by first | (simp [he]; done) | (simp [he]; rfl))).trans rfl) (by first | (go_simp; done) | (go_simp; rfl) | (simp [execOp, Act.eval, go_sem, *]; done) | (simp [execOp, Act.eval, go_sem, *]; rfl)) rfl (Pu.refl _)
          · intro a' w' hs hp he
            try simp [Is, Region.binds] at he
            have c1 := (HRW.out.pu hp).cell' 1 (by simp); simp at c1; exact op_val rfl ((wanted_some rfl rfl (by first | (simp [he]; done) | (simp [he]; rfl))).trans rfl) (by first | (go_simp; done) | (go_simp; rfl)) rfl (Pu.refl _)
          · intro a' w' hs hp he
            try simp [Is, Region.binds] at he
            first | exact op_skip rfl ((wanted_some rfl rfl (by first | (simp [he]; done) | (simp [he]; rfl))).trans rfl) rfl | exact op_val rfl ((wanted_some rfl rfl (by first | (simp [he]; done) | (simp [he]; rfl))).trans rfl) (by first | (go_simp; done) | (go_simp; rfl) | (simp [execOp, Act.eval, go_sem, *]; done) | (simp [execOp, Act.eval, go_sem, *]; rfl)) rfl (Pu.refl _)
          · intro a' w' hs hp he
            try simp [Is, Region.binds] at he
            exact op_val rfl (wanted_none rfl) (by first | (go_simp; done) | (go_simp; rfl) | (simp [execOp, Act.eval, go_sem, *]; done) | (simp [execOp, Act.eval, go_sem, *]; rfl)) rfl (Pu.refl _)
          · intro a' w' hs hp he
            try simp [Is, Region.binds] at he
            exact op_val rfl (wanted_none rfl) (by first | (go_simp; done) | (go_simp; rfl) | (simp [execOp, Act.eval, go_sem, *]; done) | (simp [execOp, Act.eval, go_sem, *]; rfl)) rfl (Pu.refl _)
          · intro a' w' hs hp he
            have e8 := hs 8 (by kernel_rfl)
            try simp [Is, Region.binds] at he
            first | exact op_skip rfl ((wanted_some rfl rfl (by first | (simp [he]; done) | (simp [he]; rfl))).trans rfl) rfl | exact op_val rfl ((wanted_some rfl rfl (by first | (simp [he]; done) | (simp [he]; rfl))).trans rfl) (by first | (go_simp; done) | (go_simp; rfl) | (simp [execOp, Act.eval, go_sem, *]; done) | (simp [execOp, Act.eval, go_sem, *]; rfl)) rfl (Pu.refl _)
          · intro a' w' hs hp he
            try simp [Is, Region.binds] at he
            exact op_callP ((inWaits ((CR9.out.pu hp).oi.i)).mono (by rintro e w' ⟨rfl, rfl⟩; exact ⟨rfl, Pu.refl _⟩)) rfl ((wanted_some rfl rfl (by first | (simp [he]; done) | (simp [he]; rfl))).trans rfl) (by first | (go_simp; done) | (go_simp; rfl)) (fun _ => rfl)
          · intro a' w' hs hp he
            have e9 := hs 9 (by kernel_rfl)
            try simp [Is, Region.binds] at he
            first | exact op_skip rfl ((wanted_some rfl rfl (by first | (simp [he]; done) | (simp [he]; rfl))).trans rfl) rfl | exact op_val rfl ((wanted_some rfl rfl (by first | (simp [he]; done) | (simp [he]; rfl))).trans rfl) (by first | (go_simp; done) | (go_simp; rfl) | (simp [execOp, Act.eval, go_sem, *]; done) | (simp [execOp, Act.eval, go_sem, *]; rfl)) rfl (Pu.refl _)
          · intro a' w' hs hp he
            try simp [Is, Region.binds] at he
            first | exact op_skip rfl ((wanted_some rfl rfl (by first | (simp [he]; done) | (simp [he]; rfl))).trans rfl) rfl | exact op_val rfl ((wanted_some rfl rfl (by first | (simp [he]; done) | (simp [he]; rfl))).trans rfl) (by first | (go_simp; done) | (go_simp; rfl) | (simp [execOp, Act.eval, go_sem, *]; done) | (simp [execOp, Act.eval, go_sem, *]; rfl)) rfl (Pu.refl _)
          · intro a' w' hs hp he
            try simp [Is, Region.binds] at he
            first | exact op_skip rfl ((wanted_some rfl rfl (by first | (simp [he]; done) | (simp [he]; rfl))).trans rfl) rfl | exact op_val rfl ((wanted_some rfl rfl (by first | (simp [he]; done) | (simp [he]; rfl))).trans rfl) (by first | (go_simp; done) | (go_simp; rfl) | (simp [execOp, Act.eval, go_sem, *]; done) | (simp [execOp, Act.eval, go_sem, *]; rfl)) rfl (Pu.refl _)
          · intro a' w' hs hp he
            try simp [Is, Region.binds] at he
            have c1 := (HRW.out.pu hp).cell' 2 (by simp); simp at c1; exact op_val rfl ((wanted_some rfl rfl (by first | (simp [he]; done) | (simp [he]; rfl))).trans rfl) (by first | (go_simp; done) | (go_simp; rfl)) rfl (Pu.refl _)
          · intro a' w' hs hp he
            try simp [Is, Region.binds] at he
            first | exact op_skip rfl ((wanted_some rfl rfl (by first | (simp [he]; done) | (simp [he]; rfl))).trans rfl) rfl | exact op_val rfl ((wanted_some rfl rfl (by first | (simp [he]; done) | (simp [he]; rfl))).trans rfl) (by first | (go_simp; done) | (go_simp; rfl) | (simp [execOp, Act.eval, go_sem, *]; done) | (simp [execOp, Act.eval, go_sem, *]; rfl)) rfl (Pu.refl _)
          · intro a' w' hs hp he
            try simp [Is, Region.binds] at he
            first | exact op_skip rfl ((wanted_some rfl rfl (by first | (simp [he]; done) | (simp [he]; rfl))).trans rfl) rfl | exact op_val rfl ((wanted_some rfl rfl (by first | (simp [he]; done) | (simp [he]; rfl))).trans rfl) (by first | (go_simp; done) | (go_simp; rfl) | (simp [execOp, Act.eval, go_sem, *]; done) | (simp [execOp, Act.eval, go_sem, *]; rfl)) rfl (Pu.refl _)
          · intro a' w' hs hp he
            try simp [Is, Region.binds] at he
            exact op_val rfl (wanted_none rfl) (by first | (go_simp; done) | (go_simp; rfl) | (simp [execOp, Act.eval, go_sem, *]; done) | (simp [execOp, Act.eval, go_sem, *]; rfl)) rfl (Pu.refl _)
          · intro a' w' hs hp he
            try simp [Is, Region.binds] at he
            exact op_val rfl (wanted_none rfl) (by first | (go_simp; done) | (go_simp; rfl) | (simp [execOp, Act.eval, go_sem, *]; done) | (simp [execOp, Act.eval, go_sem, *]; rfl)) rfl (Pu.refl _)
          · intro a' w' hs hp he
            have e0 := hs 0 (by kernel_rfl)
            try simp [Is, Region.binds] at he
            first | exact op_skip rfl ((wanted_some rfl rfl (by first | (simp [he]; done) | (simp [he]; rfl))).trans rfl) rfl | exact op_val rfl ((wanted_some rfl rfl (by first | (simp [he]; done) | (simp [he]; rfl))).trans rfl) (by first | (go_simp; done) | (go_simp; rfl) | (simp [execOp, Act.eval, go_sem, *]; done) | (simp [execOp, Act.eval, go_sem, *]; rfl)) rfl (Pu.refl _)
          · intro a' w' hs hp he
            have e1 := hs 1 (by kernel_rfl)
            try simp [Is, Region.binds] at he
            first | exact op_skip rfl ((wanted_some rfl rfl (by first | (simp [he]; done) | (simp [he]; rfl))).trans rfl) rfl | exact op_val rfl ((wanted_some rfl rfl (by first | (simp [he]; done) | (simp [he]; rfl))).trans rfl) (by first | (go_simp; done) | (go_simp; rfl) | (simp [execOp, Act.eval, go_sem, *]; done) | (simp [execOp, Act.eval, go_sem, *]; rfl)) rfl (Pu.refl _)
          · intro a' w' hs hp he
            try simp [Is, Region.binds] at he
            first | exact op_skip rfl ((wanted_some rfl rfl (by first | (simp [he]; done) | (simp [he]; rfl))).trans rfl) rfl | exact op_val rfl ((wanted_some rfl rfl (by first | (simp [he]; done) | (simp [he]; rfl))).trans rfl) (by first | (go_simp; done) | (go_simp; rfl) | (simp [execOp, Act.eval, go_sem, *]; done) | (simp [execOp, Act.eval, go_sem, *]; rfl)) rfl (Pu.refl _)
          · intro a' w' hs hp he
            try simp [Is, Region.binds] at he
            first | exact op_skip rfl ((wanted_some rfl rfl (by first | (simp [he]; done) | (simp [he]; rfl))).trans rfl) rfl | exact op_val rfl ((wanted_some rfl rfl (by first | (simp [he]; done) | (simp [he]; rfl))).trans rfl) (by first | (go_simp; done) | (go_simp; rfl) | (simp [execOp, Act.eval, go_sem, *]; done) | (simp [execOp, Act.eval, go_sem, *]; rfl)) rfl (Pu.refl _)
          · intro a' w' hs hp he
            have e15 := hs 15 (by kernel_rfl)
            try simp [Is, Region.binds] at he
            first | exact op_skip rfl ((wanted_some rfl rfl (by first | (simp [he]; done) | (simp [he]; rfl))).trans rfl) rfl | exact op_val rfl ((wanted_some rfl rfl (by first | (simp [he]; done) | (simp [he]; rfl))).trans rfl) (by first | (go_simp; done) | (go_simp; rfl) | (simp [execOp, Act.eval, go_sem, *]; done) | (simp [execOp, Act.eval, go_sem, *]; rfl)) rfl (Pu.refl _)
          · intro a' w' hs hp he
            try simp [Is, Region.binds] at he
            first | exact op_skip rfl ((wanted_some rfl rfl (by first | (simp [he]; done) | (simp [he]; rfl))).trans rfl) rfl | exact op_val rfl ((wanted_some rfl rfl (by first | (simp [he]; done) | (simp [he]; rfl))).trans rfl) (by first | (go_simp; done) | (go_simp; rfl) | (simp [execOp, Act.eval, go_sem, *]; done) | (simp [execOp, Act.eval, go_sem, *]; rfl)) rfl (Pu.refl _)
          · intro a' w' hs hp he
            try simp [Is, Region.binds] at he
            first | exact op_skip rfl ((wanted_some rfl rfl (by first | (simp [he]; done) | (simp [he]; rfl))).trans rfl) rfl | exact op_val rfl ((wanted_some rfl rfl (by first | (simp [he]; done) | (simp [he]; rfl))).trans rfl) (by first | (go_simp; done) | (go_simp; rfl) | (simp [execOp, Act.eval, go_sem, *]; done) | (simp [execOp, Act.eval, go_sem, *]; rfl)) rfl (Pu.refl _)
          · intro a' w' hs hp he
            try simp [Is, Region.binds] at he
            exact op_val rfl (wanted_none rfl) (by first | (go_simp; done) | (go_simp; rfl) | (simp [execOp, Act.eval, go_sem, *]; done) | (simp [execOp, Act.eval, go_sem, *]; rfl)) rfl (Pu.refl _)
        case hend =>
          intro a' w' hdef hsz hs hp hall
          obtain ⟨r0, r1, r2, r3, r4, r5, r6, r7, r8, r9, r10, r11, r12, r13, r14, r15, r16, r17, r18, r19, r20, r21, r22, r23, r24, r25, r26, r27, r28, r29, r30, r31, r32, r33, r34, r35, r36, r37, r38, r39, r40, -⟩ := hall
          have hA := agree_done (agree_step (agree_step (agree_step (agree_step (agree_step (agree_step (agree_step (agree_step (agree_step (agree_step (agree_step (agree_step (agree_step (agree_step (agree_step (agree_step (agree_step (agree_step (agree_step (agree_step (agree_step (agree_step (agree_step (agree_step (agree_step (agree_step (agree_step (agree_step (agree_step (agree_step (agree_step (agree_step (agree_step (agree_step (agree_step (agree_step (agree_step (agree_step (agree_step (agree_step (agree_step (agree_init [70, 71, 72, 73, 74, 75, 76, 77, 78, 79, 80, 81, 82, 83, 84, 85, 86, 87, 88, 89, 90, 91, 92, 93, 94, 95, 96, 97, 98, 99, 100, 101, 102, 103, 104, 105, 106, 107, 108, 109, 110] hsz hs (by kernel_rfl)) r0) r1) r2) r3) r4) r5) r6) r7) r8) r9) r10) r11) r12) r13) r14) r15) r16) r17) r18) r19) r20) r21) r22) r23) r24) r25) r26) r27) r28) r29) r30) r31) r32) r33) r34) r35) r36) r37) r38) r39) r40)
          have ha := act_of hA hdef
          rw [ha]
          clear ha hA hs hsz hdef r0 r1 r2 r3 r4 r5 r6 r7 r8 r9 r10 r11 r12 r13 r14 r15 r16 r17 r18 r19 r20 r21 r22 r23 r24 r25 r26 r27 r28 r29 r30 r31 r32 r33 r34 r35 r36 r37 r38 r39 r40 
          (try simp only [List.setIfInBounds_toArray])
          (try dsimp only [List.set_cons_zero, List.set_cons_succ])
          (try simp only [Exit.then])
          have hpp := hp
          clear hp
          go_wp2_with fail
          go_roundw
          case rel => exact ⟨n + 1, _, _, _, s2, by omega, by go_num, CR9.out.pu hpp, by omega, fun h => by have := HSO.out h; cases this; rfl⟩
          case measure => simp [intOf]; omega
    · obtain rfl : n = len := by omega
      have hlt' : decide ((n : Int) < n) = false := by simp
      go_wp2_with fail
      go_ret
      exact ⟨rfl, cr.oi.since⟩
end Go.Proofs.YtoakccknimoogaaGreat
