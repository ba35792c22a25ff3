/- Package mac. -/
import Derived.Test.YtdjbhbefghihcaaXor
import Derived.Test.YtdjbhbefghihcaaSum
set_option linter.unusedSimpArgs false
set_option linter.unusedVariables false
namespace Go.Esc
open Go Go.RowKit
def keyL (key : Bs) : Bs := let k := if 64 < key.length then sha key else key; k ++ List.replicate (64 - k.length) 0
def macL (key b : Bs) : Bs := sha (xorL (keyL key) (List.replicate 64 0x5c) ++ sha (xorL (keyL key) (List.replicate 64 0x36) ++ b))
theorem xorL_zero {a b : Bs} (h : a.length = b.length) : (∀ (k : Nat) (h1 : k < (xorL a b).length), (xorL a b)[k] = 0) ↔ a = b := by
  constructor
  · intro hz
    apply List.ext_getElem h
    intro k h1 h2
    have h3 := hz k (by rw [xorL_length]; omega)
    simp only [xorL, List.getElem_zipWith] at h3
    exact UInt8.xor_eq_zero_iff.1 h3
  · rintro rfl k h1
    simp only [xorL, List.getElem_zipWith]
    exact UInt8.xor_self
end Go.Esc
namespace Go.Proofs.Ytdjbhbefghihcaa
open Go.RowKit Go.Esc
theorem sha_len (l : Bs) : (sha l).length = 32 := by rw [sha_words, flat4]; rfl
theorem keyL_length (key : Bs) : (keyL key).length = 64 := by
  simp only [keyL]
  split
  · rw [List.length_append, sha_len, List.length_replicate]
  · simp; omega
theorem macL_length (key b : Bs) : (macL key b).length = 32 := sha_len _
set_option maxRecDepth 100000 in
set_option maxHeartbeats 1600000 in
theorem add64 (a : Addr) (x : Int) (w : World) (hx : 0 ≤ x ∧ x < 1000000000) (hc : w.cell? a = some (.int .i64 x)) (hz : w.frozen? a = false) :
    Calls Try.prog 99 #[.pointer (some a), .int .i64 1] w fun e w' => e = .returned (.int .i64 (x + 1)) ∧ w' = w.setCell a (.int .i64 (x + 1)) := by
  have hs : (Op.intArith .add .i64 x 1).run Try.prog w = .ok (.int .i64 (x + 1)) w := by
    have : IntKind.i64.wrap (x + 1) = x + 1 := by rw [IntKind.wrap_i64]; omega
    show (Sem.pure (Value.int .i64 (IntKind.i64.wrap (x + 1)))).run _ w = _
    rw [this]; rfl
  have hadd := run_call_add (P := Try.prog) Try.func127 (by kernel_rfl) (by kernel_rfl) (by kernel_rfl) .i64 (by kernel_rfl) (y := 1) hc hz hs
  go_enter Try.func99, Try.ntmps99
  go_wp2_with fail
  go_ret
  exact ⟨rfl, rfl⟩
set_option maxRecDepth 100000 in
theorem load64 (a : Addr) (x : Int) (w : World) (hc : w.cell? a = some (.int .i64 x)) :
    Calls Try.prog 100 #[.pointer (some a)] w fun e w' => e = .returned (.int .i64 x) ∧ w' = w := by
  have hl := run_call_load (P := Try.prog) Try.func128 (by kernel_rfl) (by kernel_rfl) (by kernel_rfl) .i64 (by kernel_rfl) hc
  go_enter Try.func100, Try.ntmps100
  go_wp2_with fail
  go_ret
  exact ⟨rfl, rfl⟩
set_option maxRecDepth 100000 in
set_option maxHeartbeats 1600000 in
theorem same (a b : Bs) (h : a.length ≤ 1000000) (h2 : b.length ≤ 1000000) (w : World) :
    Calls Try.prog 64 #[S a, S b] w fun e w' => e = .returned (.bool (decide (a = b))) ∧ Pu w w' := by
  have hx := fun w => xor a b (.inl h) w
  obtain ⟨z, hz⟩ : ∃ z, z = xorL a b := ⟨_, rfl⟩
  have hzl : z.length ≤ 1000000 := by rw [hz, xorL_length]; omega
  rw [← hz] at hx
  have HX := Lib.hid hx
  have HZ := Lib.hid hz
  clear hx hz
  go_enter Try.func64, Try.ntmps64
  go_wp2_with (first
    | (go_at_call 98; refine (HX.out _).mono ?_; rintro e w1 ⟨rfl, hp1⟩)
    | (refine wpList_bytes _ rfl (.tmp 10) 9 27 5 rfl z (by first | rfl | simp [Act.eval]) Try.underlying9 Try.underlying27 Try.underlying5 ?_; intro w2 cap hrow hpu hcap))
  have hr0 := ((Row.newAt w w.heap.size _ _ rfl rfl).pu hp1).pu hpu
  have hb0 := (((Pu.refl w).alloc _).trans hp1).trans hpu
  have hs1 := hp1.size
  have hs0 : w.heap.size < w1.heap.size := by simp at hs1; omega
  clear hp1 hpu hcap hs1
  go_loopw [13] (fun i wr => ∃ (k x : Nat), k ≤ z.length ∧ x ≤ k ∧ (x = 0 ↔ ∀ j, j < k → z.getD j 0 = 0) ∧ i = .int .i64 (k : Int) ∧ Row wr w.heap.size 111 [.int .i64 (x : Int)] ∧ Row wr w1.heap.size 5 (cells z) ∧ Below w.heap.size w wr) (fun i _ => z.length - (intOf i).toNat)
  case atStart => exact ⟨0, 0, by omega, by omega, ⟨fun _ j h => absurd h (by omega), fun _ => rfl⟩, rfl, hr0, hrow, hb0⟩
  case round =>
    clear hr0 hrow hb0
    obtain ⟨k, x, hk, hxk, hiff, rfl, hr, hrow, hbel⟩ := hrel
    by_cases hlt : k < z.length
    · obtain ⟨c, hc⟩ : ∃ c, z[k] = c := ⟨_, rfl⟩
      have hcc := Row.byte hrow k hlt
      rw [hc] at hcc
      have hgk : z.getD k 0 = c := by simp [List.getD_eq_getElem?_getD, List.getElem?_eq_getElem hlt, hc]
      have HI := Lib.hid hiff
      have HGK := Lib.hid hgk
      clear hc hgk hiff
      by_cases hcz : c = 0
      · subst hcz
        go_wp2_with fail
        go_roundw
        case rel =>
          refine ⟨k + 1, x, by omega, by omega, ?_, by go_num, hr, hrow, hbel⟩
          rw [HI.out]
          constructor
          · intro h j hj
            by_cases hjk : j = k
            · subst hjk; exact HGK.out
            · exact h j (by omega)
          · intro h j hj; exact h j (by omega)
        case measure => simp [intOf]; omega
      · have hne : ¬ ((c.toNat : Int) = 0) := by
          intro h
          exact hcz (UInt8.toNat_inj.1 (by simpa using (by omega : c.toNat = 0)))
        have hne2 : ((c.toNat : Int) == 0) = false := by simp; intro h; exact hne (by omega)
        have c0 := hr.cell 0 (by simp)
        have f0 := hr.frozen 0 (by simp)
        simp at c0
        go_wp2_with (go_at_call 99; refine (add64 ⟨w.heap.size, 0, none⟩ (x : Int) _ (by omega) c0 f0).mono ?_; rintro e w3 ⟨rfl, rfl⟩)
        go_roundw
        case rel =>
          refine ⟨k + 1, x + 1, by omega, by omega, ?_, by go_num, ?_, hrow.setOther _ _ (by simp; omega), hbel.setCell (by simp) _⟩
          · constructor
            · intro h; omega
            · intro h; exact absurd ((HGK.out).symm.trans (h k (by omega))) hcz
          · exact hr.set 0 _
        case measure => simp [intOf]; omega
    · obtain rfl : k = z.length := by omega
      have c0 := hr.cell 0 (by simp)
      simp at c0
      have hfin : ∀ hl : a.length = b.length, (x = 0 ↔ a = b) := by
        intro hl
        rw [hiff, ← xorL_zero hl, ← HZ.out]
        constructor
        · intro h k hk
          have := h k hk
          rwa [List.getD_eq_getElem?_getD, List.getElem?_eq_getElem hk] at this
        · intro h k hk
          rw [List.getD_eq_getElem?_getD, List.getElem?_eq_getElem hk]; exact h k hk
      have HF := Lib.hid hfin
      clear hfin hiff
      by_cases hx0 : x = 0
      · by_cases hl : a.length = b.length
        · have hd : decide (a = b) = true := by simp; exact (HF.out hl).1 hx0
          have hl' : (a.length : Int) = b.length := by omega
          subst hx0
          have HD := Lib.hid hd
          clear hd
          go_wp2_with (go_at_call 100; refine (load64 ⟨w.heap.size, 0, none⟩ _ _ c0).mono ?_; rintro e w3 ⟨rfl, rfl⟩)
          go_ret
          exact ⟨by rw [HD.out]; rfl, hbel⟩
        · have hd : decide (a = b) = false := by simp; rintro rfl; exact hl rfl
          have hl' : ¬ ((a.length : Int) = b.length) := by omega
          have hl2 : ((a.length : Int) == b.length) = false := by simp; omega
          subst hx0
          have HD := Lib.hid hd
          clear hd
          go_wp2_with (go_at_call 100; refine (load64 ⟨w.heap.size, 0, none⟩ _ _ c0).mono ?_; rintro e w3 ⟨rfl, rfl⟩)
          go_ret
          exact ⟨by rw [HD.out]; rfl, hbel⟩
      · have hd : decide (a = b) = false := by
          simp; rintro rfl; exact hx0 ((HF.out rfl).2 rfl)
        have hxi : ¬ ((x : Int) = 0) := by omega
        have hxi2 : ((x : Int) == 0) = false := by simp; omega
        have HD := Lib.hid hd
        clear hd
        go_wp2_with (go_at_call 100; refine (load64 ⟨w.heap.size, 0, none⟩ _ _ c0).mono ?_; rintro e w3 ⟨rfl, rfl⟩)
        go_ret
        exact ⟨by rw [HD.out]; rfl, hbel⟩
theorem xorL_length64 (a b : Bs) (ha : a.length = 64) (hb : b.length = 64) : (xorL a b).length = 64 := by rw [xorL_length]; omega
set_option maxRecDepth 100000 in
set_option maxHeartbeats 1600000 in
theorem macOf (key b : Bs) (h : key.length ≤ 100000) (h2 : b.length ≤ 800000) (w : World) :
    Calls Try.prog 63 #[S key, S b] w fun e w' => e = .returned (S (macL key b)) ∧ Pu w w' := by
  obtain ⟨k, hk⟩ : ∃ k, k = (if 64 < key.length then sha key else key) := ⟨_, rfl⟩
  have hkl : k.length ≤ 64 := by
    rw [hk]; split
    · rw [sha_len]; omega
    · omega
  obtain ⟨z, hz⟩ : ∃ z, z = 64 - k.length := ⟨_, rfl⟩
  obtain ⟨k2, hk2⟩ : ∃ k2, k2 = k ++ List.replicate z 0 := ⟨_, rfl⟩
  have hk2l : k2.length = 64 := by rw [hk2]; simp; omega
  have hk2k : k2 = keyL key := by rw [hk2, keyL, hz, hk]
  obtain ⟨xi, hxi⟩ : ∃ x, x = xorL k2 (List.replicate 64 54) := ⟨_, rfl⟩
  obtain ⟨xo, hxo⟩ : ∃ x, x = xorL k2 (List.replicate 64 92) := ⟨_, rfl⟩
  have hxil : xi.length = 64 := by rw [hxi]; exact xorL_length64 _ _ hk2l (by simp)
  have hxol : xo.length = 64 := by rw [hxo]; exact xorL_length64 _ _ hk2l (by simp)
  obtain ⟨si, hsi⟩ : ∃ x, x = sha (xi ++ b) := ⟨_, rfl⟩
  have hsil : si.length = 32 := by rw [hsi]; exact sha_len _
  obtain ⟨so, hso⟩ : ∃ x, x = sha (xo ++ si) := ⟨_, rfl⟩
  have hfin : macL key b = so := by rw [macL, ← hk2k, ← hxi, ← hxo, ← hsi, ← hso]
  have hX1 := fun w => xor k2 (List.replicate 64 54) (.inl (by omega)) w
  have hX2 := fun w => xor k2 (List.replicate 64 92) (.inl (by omega)) w
  have hS1 := fun w => sum (xi ++ b) (by simp; omega) w
  have hS2 := fun w => sum (xo ++ si) (by simp; omega) w
  rw [← hxi] at hX1
  rw [← hxo] at hX2
  rw [← hsi] at hS1
  rw [← hso] at hS2
  have hR1 := fun w => rep 54 64 w (by decide) (by decide)
  have hR2 := fun w => rep 92 64 w (by decide) (by decide)
  have hR0 := fun w => rep 0 (z : Int) w (by omega) (by omega)
  rw [show (z : Int).toNat = z from rfl] at hR0
  rw [show (64 : Int).toNat = 64 from rfl] at hR1 hR2
  obtain ⟨r1, hr1⟩ : ∃ r, r = List.replicate 64 (54 : UInt8) := ⟨_, rfl⟩
  obtain ⟨r2, hr2⟩ : ∃ r, r = List.replicate 64 (92 : UInt8) := ⟨_, rfl⟩
  rw [← hr1] at hX1 hR1
  rw [← hr2] at hX2 hR2
  have c1 : ¬ (9223372036854775807 < xi.length + b.length) := by omega
  have c2 : ¬ (9223372036854775807 < xo.length + si.length) := by omega
  have c3 : ¬ (9223372036854775807 < k.length + z) := by omega
  have c4 : (64 : Int) - k.length = z := by omega
  have c5 : IntKind.i64.wrap (z : Int) = z := by rw [IntKind.wrap_i64]; omega
  have hcat : k ++ List.replicate z 0 = k2 := hk2.symm
  have HX1 := Lib.hid hX1
  have HX2 := Lib.hid hX2
  have HS1 := Lib.hid hS1
  have HS2 := Lib.hid hS2
  have HR0 := Lib.hid hR0
  have HR1 := Lib.hid hR1
  have HR2 := Lib.hid hR2
  have HF := Lib.hid hfin
  clear hX1 hX2 hS1 hS2 hR0 hR1 hR2 hfin hz hk2 hk2k hxi hxo hsi hso hr1 hr2
  by_cases h64 : 64 < key.length
  · have h64' : (64 : Int) < key.length := by omega
    have hks : k = sha key := by rw [hk, if_pos h64]
    have hSK := fun w => sum key (by omega) w
    rw [← hks] at hSK
    have HSK := Lib.hid hSK
    clear hk hks hSK
    go_enter Try.func63, Try.ntmps63
    go_wp2_with (first
      | (go_at_call 41; first
         | (with_reducible refine (HS1.out _).mono ?_
            rintro e w4 ⟨rfl, hp⟩; replace hpu := hpu.trans hp)
         | (with_reducible refine (HS2.out _).mono ?_
            rintro e w4 ⟨rfl, hp⟩; replace hpu := hpu.trans hp)
         | (with_reducible refine (HSK.out _).mono ?_
            rintro e w4 ⟨rfl, hp⟩; have hpu : Pu w w4 := hp))
      | (go_at_call 77; first
         | (refine (HR0.out _).mono ?_; rintro e w4 ⟨rfl, hp⟩; clear HR0; first | (replace hpu := hpu.trans hp) | have hpu : Pu w w4 := hp)
         | (refine (HR1.out _).mono ?_; rintro e w4 ⟨rfl, hp⟩; clear HR1; replace hpu := hpu.trans hp)
         | (refine (HR2.out _).mono ?_; rintro e w4 ⟨rfl, hp⟩; clear HR2; replace hpu := hpu.trans hp))
      | (go_at_call 98; first
         | (refine (HX1.out _).mono ?_; rintro e w4 ⟨rfl, hp⟩; clear HX1; replace hpu := hpu.trans hp)
         | (refine (HX2.out _).mono ?_; rintro e w4 ⟨rfl, hp⟩; clear HX2; replace hpu := hpu.trans hp)))
    go_ret
    exact ⟨by rw [HF.out]; rfl, hpu⟩
  · have h64' : decide ((64 : Int) < key.length) = false := by simp; omega
    obtain rfl : k = key := by rw [hk, if_neg h64]
    clear hk
    go_enter Try.func63, Try.ntmps63
    go_wp2_with (first
      | (go_at_call 41; first
         | (with_reducible refine (HS1.out _).mono ?_
            rintro e w4 ⟨rfl, hp⟩; replace hpu := hpu.trans hp)
         | (with_reducible refine (HS2.out _).mono ?_
            rintro e w4 ⟨rfl, hp⟩; replace hpu := hpu.trans hp)
         | (with_reducible refine (HSK.out _).mono ?_
            rintro e w4 ⟨rfl, hp⟩; have hpu : Pu w w4 := hp))
      | (go_at_call 77; first
         | (refine (HR0.out _).mono ?_; rintro e w4 ⟨rfl, hp⟩; clear HR0; first | (replace hpu := hpu.trans hp) | have hpu : Pu w w4 := hp)
         | (refine (HR1.out _).mono ?_; rintro e w4 ⟨rfl, hp⟩; clear HR1; replace hpu := hpu.trans hp)
         | (refine (HR2.out _).mono ?_; rintro e w4 ⟨rfl, hp⟩; clear HR2; replace hpu := hpu.trans hp))
      | (go_at_call 98; first
         | (refine (HX1.out _).mono ?_; rintro e w4 ⟨rfl, hp⟩; clear HX1; replace hpu := hpu.trans hp)
         | (refine (HX2.out _).mono ?_; rintro e w4 ⟨rfl, hp⟩; clear HX2; replace hpu := hpu.trans hp)))
    go_ret
    exact ⟨by rw [HF.out]; rfl, hpu⟩
end Go.Proofs.Ytdjbhbefghihcaa
