/- Package mac: Same; counters that count as one. -/
import Derived.Test.YtdjbhbefghihcaaXor
import Derived.Test.YtdjbhbefghihcaaSched
set_option linter.unusedSimpArgs false
set_option linter.unusedVariables false
namespace Go.Esc
open Go Go.RowKit
theorem xorL_zero {a b : Bs} (h : a.length = b.length) : (∀ (k : Nat) (h1 : k < (xorL a b).length), (xorL a b)[k] = 0) ↔ a = b := by
  constructor
  · intro hz
    apply List.ext_getElem h
    intro k h1 h2
    have h3 := hz k (by rw [xorL_length]; omega)
    simp only [xorL, List.getElem_zipWith] at h3
    exact UInt8.xor_eq_zero_iff.1 h3
  · rintro rfl k h1
    simp only [xorL, List.getElem_zipWith]
    exact UInt8.xor_self
end Go.Esc
namespace Go.Proofs.Ytdjbhbefghihcaa
open Go.RowKit Go.Esc
set_option maxRecDepth 100000 in
set_option maxHeartbeats 1600000 in
theorem add64 (a : Addr) (x : Int) (w : World) (hx : 0 ≤ x ∧ x < 1000000000) (hc : w.cell? a = some (.int .i64 x)) (hz : w.frozen? a = false) :
    Calls Try.prog 99 #[.pointer (some a), .int .i64 1] w fun e w' => e = .returned (.int .i64 (x + 1)) ∧ w' = w.setCell a (.int .i64 (x + 1)) := by
  have hs : (Op.intArith .add .i64 x 1).run Try.prog w = .ok (.int .i64 (x + 1)) w := by
    have : IntKind.i64.wrap (x + 1) = x + 1 := by rw [IntKind.wrap_i64]; omega
    show (Sem.pure (Value.int .i64 (IntKind.i64.wrap (x + 1)))).run _ w = _
    rw [this]; rfl
  have hadd := run_call_add (P := Try.prog) Try.func127 (by kernel_rfl) (by kernel_rfl) (by kernel_rfl) .i64 (by kernel_rfl) (y := 1) hc hz hs
  go_enter Try.func99, Try.ntmps99
  go_wp2_with fail
  go_ret
  exact ⟨rfl, rfl⟩
set_option maxRecDepth 100000 in
theorem load64 (a : Addr) (x : Int) (w : World) (hc : w.cell? a = some (.int .i64 x)) :
    Calls Try.prog 100 #[.pointer (some a)] w fun e w' => e = .returned (.int .i64 x) ∧ w' = w := by
  have hl := run_call_load (P := Try.prog) Try.func128 (by kernel_rfl) (by kernel_rfl) (by kernel_rfl) .i64 (by kernel_rfl) hc
  go_enter Try.func100, Try.ntmps100
  go_wp2_with fail
  go_ret
  exact ⟨rfl, rfl⟩
set_option maxRecDepth 100000 in
set_option maxHeartbeats 1600000 in
theorem same (a b : Bs) (h : a.length ≤ 1000000) (h2 : b.length ≤ 1000000) (w : World) :
    Calls Try.prog 64 #[S a, S b] w fun e w' => e = .returned (.bool (decide (a = b))) ∧ Pu w w' := by
  have hx := fun w => xor a b (.inl h) w
  obtain ⟨z, hz⟩ : ∃ z, z = xorL a b := ⟨_, rfl⟩
  have hzl : z.length ≤ 1000000 := by rw [hz, xorL_length]; omega
  rw [← hz] at hx
  have HX := Lib.hid hx
  have HZ := Lib.hid hz
  clear hx hz
  go_enter Try.func64, Try.ntmps64
  go_wp2_with (first
    | (go_at_call 98; refine (HX.out _).mono ?_; rintro e w1 ⟨rfl, hp1⟩)
    | (refine wpList_bytes _ rfl (.tmp 10) 9 27 5 rfl z (by first | rfl | simp [Act.eval]) Try.underlying9 Try.underlying27 Try.underlying5 ?_; intro w2 cap hrow hpu hcap))
  have hr0 := ((Row.newAt w w.heap.size _ _ rfl rfl).pu hp1).pu hpu
  have hb0 := (((Pu.refl w).alloc _).trans hp1).trans hpu
  have hs1 := hp1.size
  have hs0 : w.heap.size < w1.heap.size := by simp at hs1; omega
  clear hp1 hpu hcap hs1
  go_loopw [13] (fun i wr => ∃ (k x : Nat), k ≤ z.length ∧ x ≤ k ∧ (x = 0 ↔ ∀ j, j < k → z.getD j 0 = 0) ∧ i = .int .i64 (k : Int) ∧ Row wr w.heap.size 111 [.int .i64 (x : Int)] ∧ Row wr w1.heap.size 5 (cells z) ∧ Below w.heap.size w wr) (fun i _ => z.length - (intOf i).toNat)
  case atStart => exact ⟨0, 0, by omega, by omega, ⟨fun _ j h => absurd h (by omega), fun _ => rfl⟩, rfl, hr0, hrow, hb0⟩
  case round =>
    clear hr0 hrow hb0
    obtain ⟨k, x, hk, hxk, hiff, rfl, hr, hrow, hbel⟩ := hrel
    by_cases hlt : k < z.length
    · obtain ⟨c, hc⟩ : ∃ c, z[k] = c := ⟨_, rfl⟩
      have hcc := Row.byte hrow k hlt
      rw [hc] at hcc
      have hgk : z.getD k 0 = c := by simp [List.getD_eq_getElem?_getD, List.getElem?_eq_getElem hlt, hc]
      have HI := Lib.hid hiff
      have HGK := Lib.hid hgk
      clear hc hgk hiff
      by_cases hcz : c = 0
      · subst hcz
        go_wp2_with fail
        go_roundw
        case rel =>
          refine ⟨k + 1, x, by omega, by omega, ?_, by go_num, hr, hrow, hbel⟩
          rw [HI.out]
          constructor
          · intro h j hj
            by_cases hjk : j = k
            · subst hjk; exact HGK.out
            · exact h j (by omega)
          · intro h j hj; exact h j (by omega)
        case measure => simp [intOf]; omega
      · have hne : ¬ ((c.toNat : Int) = 0) := by
          intro h
          exact hcz (UInt8.toNat_inj.1 (by simpa using (by omega : c.toNat = 0)))
        have hne2 : ((c.toNat : Int) == 0) = false := by simp; intro h; exact hne (by omega)
        have c0 := hr.cell 0 (by simp)
        have f0 := hr.frozen 0 (by simp)
        simp at c0
        go_wp2_with (go_at_call 99; refine (add64 ⟨w.heap.size, 0, none⟩ (x : Int) _ (by omega) c0 f0).mono ?_; rintro e w3 ⟨rfl, rfl⟩)
        go_roundw
        case rel =>
          refine ⟨k + 1, x + 1, by omega, by omega, ?_, by go_num, ?_, hrow.setOther _ _ (by simp; omega), hbel.setCell (by simp) _⟩
          · constructor
            · intro h; omega
            · intro h; exact absurd ((HGK.out).symm.trans (h k (by omega))) hcz
          · exact hr.set 0 _
        case measure => simp [intOf]; omega
    · obtain rfl : k = z.length := by omega
      have c0 := hr.cell 0 (by simp)
      simp at c0
      have hfin : ∀ hl : a.length = b.length, (x = 0 ↔ a = b) := by
        intro hl
        rw [hiff, ← xorL_zero hl, ← HZ.out]
        constructor
        · intro h k hk
          have := h k hk
          rwa [List.getD_eq_getElem?_getD, List.getElem?_eq_getElem hk] at this
        · intro h k hk
          rw [List.getD_eq_getElem?_getD, List.getElem?_eq_getElem hk]; exact h k hk
      have HF := Lib.hid hfin
      clear hfin hiff
      by_cases hx0 : x = 0
      · by_cases hl : a.length = b.length
        · have hd : decide (a = b) = true := by simp; exact (HF.out hl).1 hx0
          have hl' : (a.length : Int) = b.length := by omega
          subst hx0
          have HD := Lib.hid hd
          clear hd
          go_wp2_with (go_at_call 100; refine (load64 ⟨w.heap.size, 0, none⟩ _ _ c0).mono ?_; rintro e w3 ⟨rfl, rfl⟩)
          go_ret
          exact ⟨by rw [HD.out]; rfl, hbel⟩
        · have hd : decide (a = b) = false := by simp; rintro rfl; exact hl rfl
          have hl' : ¬ ((a.length : Int) = b.length) := by omega
          have hl2 : ((a.length : Int) == b.length) = false := by simp; omega
          subst hx0
          have HD := Lib.hid hd
          clear hd
          go_wp2_with (go_at_call 100; refine (load64 ⟨w.heap.size, 0, none⟩ _ _ c0).mono ?_; rintro e w3 ⟨rfl, rfl⟩)
          go_ret
          exact ⟨by rw [HD.out]; rfl, hbel⟩
      · have hd : decide (a = b) = false := by
          simp; rintro rfl; exact hx0 ((HF.out rfl).2 rfl)
        have hxi : ¬ ((x : Int) = 0) := by omega
        have hxi2 : ((x : Int) == 0) = false := by simp; omega
        have HD := Lib.hid hd
        clear hd
        go_wp2_with (go_at_call 100; refine (load64 ⟨w.heap.size, 0, none⟩ _ _ c0).mono ?_; rintro e w3 ⟨rfl, rfl⟩)
        go_ret
        exact ⟨by rw [HD.out]; rfl, hbel⟩
end Go.Proofs.Ytdjbhbefghihcaa
