/- Chapter 2: DigestNothing. -/
import Derived.Test.YtdjbhbefghihcaaLaw2
import Derived.Test.YtdjbhbefghihcaaTxt
set_option linter.unusedSimpArgs false
set_option linter.unusedVariables false
namespace Go.Proofs.Ytdjbhbefghihcaa
open Go.RowKit Go.Esc
set_option maxRecDepth 100000 in
set_option maxHeartbeats 3200000 in
theorem digestNothing_walk {w : World} (a : Option Addr) (len cap : Nat) (zs : List ByteArray) (hz : IsStrs w a len cap zs) (n : Int) (_ : (Lit.int .i64 n).wf = true) :
    Calls Try.prog 11 #[.slice a len cap, .int .i64 n] w fun e w' => e = .returned (.bool true) ∧ Pu w w' := by
  obtain ⟨L, hL, hlm⟩ := hz.txt
  clear hz
  by_cases g1 : 12 < len
  · have q1 : (12 : Int) < len := by omega
    go_enter Try.func11, Try.ntmps11
    go_wp2_with (go_at_call 40; refine (alive2 _).mono ?_; rintro e w1 ⟨rfl, hp1⟩)
    go_ret
    exact ⟨rfl, hp1⟩
  have q1 : decide ((12 : Int) < len) = false := by simp; omega
  by_cases g2 : n < 0
  · go_enter Try.func11, Try.ntmps11
    go_wp2_with (go_at_call 40; refine (alive2 _).mono ?_; rintro e w1 ⟨rfl, hp1⟩)
    go_ret
    exact ⟨rfl, hp1⟩
  have q2 : decide (n < 0) = false := by simp; omega
  by_cases g3 : 9 < n
  · go_enter Try.func11, Try.ntmps11
    go_wp2_with (go_at_call 40; refine (alive2 _).mono ?_; rintro e w1 ⟨rfl, hp1⟩)
    go_ret
    exact ⟨rfl, hp1⟩
  have q3 : decide (9 < n) = false := by simp; omega
  have q4 : (0 : Int) ≤ n := by omega
  have hll := hL.length
  have hln := hL.none
  have HL := Lib.hid hL
  have HG := Lib.hid g1
  clear hL g1 g2
  go_enter Try.func11, Try.ntmps11
  go_wp2_with (go_at_call 40; refine (alive2 _).mono ?_; rintro e w1 ⟨rfl, hp1⟩)
  have hd1 := (Dig.new w1 38).pu ((Pu.refl _).alloc (.cells (dcells false zero8 [] 0).toArray 38))
  have hd2 : Dig ((w1.alloc (.cells (dcells false zero8 [] 0).toArray 38)).alloc (.cells (dcells false zero8 [] 0).toArray 38)) (w1.heap.size + 1) [] := by
    have := Dig.new (w1.alloc (.cells (dcells false zero8 [] 0).toArray 38)) 38
    simpa using this
  have hbel := (((Pu.refl w1).alloc (.cells (dcells false zero8 [] 0).toArray 38)).alloc (.cells (dcells false zero8 [] 0).toArray 38))
  have hw1 := hp1.size
  go_loopw [7] (fun v wr => ∃ (i : Nat) (tot : Bs), i ≤ len ∧ tot.length ≤ 100 * i ∧ v = .int .i64 (i : Int) ∧ Dig wr w1.heap.size tot ∧ Dig wr (w1.heap.size + 1) tot ∧ Below w1.heap.size w1 wr) (fun v _ => len - (intOf v).toNat)
  case atStart => exact ⟨0, [], by omega, by simp, rfl, hd1, hd2, hbel⟩
  case round =>
    clear hd1 hd2 hbel
    obtain ⟨i, tot, hi, htl, rfl, hd1, hd2, hbel⟩ := hrel
    by_cases hlt : i < len
    · rcases a with _ | x
      · have := hln rfl; omega
      obtain ⟨t, ht⟩ : ∃ t, t = L[i]'(by omega) := ⟨_, rfl⟩
      have hcell : ∀ w', Below w1.heap.size w1 w' → w'.cell? (x.add i) = some (S t) := by
        intro w' hb
        have hT := (HL.out.keep (hp1.trans (Below.mono hb (Nat.le_refl _)))).cell x rfl i (by omega)
        rw [← ht] at hT
        exact hT.1
      have hc := hcell _ hbel
      have HC := Lib.hid hcell
      have hi1 : (i : Int) < len := by omega
      have hi0 : (0 : Int) ≤ i := by omega
      have h12 := HG.out
      clear ht hcell
      by_cases h100 : 100 < t.length
      · have q5 : (100 : Int) < t.length := by omega
        go_wp2_with fail
        go_ret
        exact ⟨rfl, hp1.trans hbel⟩
      · have q5 : decide ((100 : Int) < t.length) = false := by simp; omega
        go_wp2_with (go_at_call 43; refine (digestAdd w1.heap.size tot t (by omega) _ hd1).mono ?_
                     rintro e w2 ⟨rfl, hb2, hd1'⟩; replace hd2 := hd2.but hb2 (by omega); replace hbel := But.below hbel hb2 (Nat.le_refl _) hbel.size)
        clear hd1 hc hb2
        go_loopw [8] (fun v wq => ∃ k : Nat, (k : Int) ≤ n ∧ v = .int .i64 (k : Int) ∧ Dig wq w1.heap.size (tot ++ t) ∧ Dig wq (w1.heap.size + 1) tot ∧ Below w1.heap.size w1 wq) (fun v _ => (n - intOf v).toNat)
        case atStart => exact ⟨0, by omega, rfl, hd1', hd2, hbel⟩
        case round =>
          clear hd1' hd2 hbel
          obtain ⟨k, hk, rfl, hd1, hd2, hbel⟩ := hrel
          by_cases hkn : (k : Int) < n
          · go_wp2_with (go_at_call 43; refine (digestAdd (w1.heap.size + 1) tot [] (by simp; omega) _ hd2).mono ?_
                         rintro e w3 ⟨rfl, hb3, hd2'⟩; rw [List.append_nil] at hd2'; replace hd1 := hd1.but hb3 (by omega); replace hbel := But.below hbel hb3 (by omega) hbel.size)
            go_roundw
            case rel => exact ⟨k + 1, by omega, by go_num, hd1, hd2', hbel⟩
            case measure => simp [intOf]; omega
          · have hc3 := HC.out _ hbel
            have hkn' : decide ((k : Int) < n) = false := by simp; omega
            go_wp2_with (go_at_call 43; refine (digestAdd (w1.heap.size + 1) tot t (by omega) _ hd2).mono ?_
                         rintro e w3 ⟨rfl, hb3, hd2'⟩; replace hd1 := hd1.but hb3 (by omega); replace hbel := But.below hbel hb3 (by omega) hbel.size)
            go_roundw
            case rel => exact ⟨i + 1, tot ++ t, by omega, by simp; omega, by go_num, hd1, hd2', hbel⟩
            case measure => simp [intOf]; omega
    · obtain rfl : i = len := by omega
      have h12 := HG.out
      obtain ⟨d, hd⟩ : ∃ d, d = sha tot := ⟨_, rfl⟩
      obtain ⟨d0, hd0⟩ : ∃ d, d = sha [] := ⟨_, rfl⟩
      have hT1 := fun w g h => digestSum g tot (by omega) w h
      have hT0 := fun w g h => digestSum g [] (by simp) w h
      have hS0 := fun w => sum [] (by simp) w
      rw [← hd] at hT1
      rw [← hd0] at hT0 hS0
      have HT1 := Lib.hid hT1
      have HT0 := Lib.hid hT0
      have HS0 := Lib.hid hS0
      clear hd hd0 hT1 hT0 hS0
      have hd3 := Dig.new wr 38
      have hz1 := hd1.pu ((Pu.refl _).alloc (.cells (dcells false zero8 [] 0).toArray 38))
      replace hd2 := hd2.pu ((Pu.refl _).alloc (.cells (dcells false zero8 [] 0).toArray 38))
      replace hbel := hbel.alloc hbel.size (.cells (dcells false zero8 [] 0).toArray 38)
      go_wp2_with (first
        | (go_at_call 45; first
           | (with_reducible refine (digestLen _ _ _ hd1).mono ?_
              rintro e w4 ⟨rfl, rfl⟩)
           | (with_reducible refine (digestLen _ _ _ hd2).mono ?_
              rintro e w4 ⟨rfl, rfl⟩))
        | (go_at_call 41; refine (HS0.out _).mono ?_; rintro e w4 ⟨rfl, hp⟩; replace hbel := hbel.trans (Below.mono hp hbel.size))
        | (go_at_call 44; first
           | (refine (HT1.out _ _ hz1).mono ?_
              rintro e w4 ⟨rfl, hp⟩; clear hd1; have hd1 := hz1.pu hp; clear hz1; replace hd2 := hd2.pu hp; replace hd3 := hd3.pu hp; replace hbel := hbel.trans (Below.mono hp hbel.size))
           | (with_reducible refine (HT1.out _ _ hd1).mono ?_
              rintro e w4 ⟨rfl, hp⟩; replace hd1 := hd1.pu hp; replace hd2 := hd2.pu hp; replace hd3 := hd3.pu hp; replace hbel := hbel.trans (Below.mono hp hbel.size))
           | (with_reducible refine (HT1.out _ _ hd2).mono ?_
              rintro e w4 ⟨rfl, hp⟩; replace hd1 := hd1.pu hp; replace hd2 := hd2.pu hp; replace hd3 := hd3.pu hp; replace hbel := hbel.trans (Below.mono hp hbel.size))
           | (with_reducible refine (HT0.out _ _ hd3).mono ?_
              rintro e w4 ⟨rfl, hp⟩; replace hd1 := hd1.pu hp; replace hd2 := hd2.pu hp; replace hd3 := hd3.pu hp; replace hbel := hbel.trans (Below.mono hp hbel.size))))
      go_ret
      exact ⟨rfl, hp1.trans hbel⟩
end Go.Proofs.Ytdjbhbefghihcaa
