/- Chapter 2: DigestParts. -/
import Derived.Test.YtdjbhbefghihcaaLaw2
import Derived.Test.YtdjbhbefghihcaaRefSum
import Derived.Test.YtdjbhbefghihcaaTxt
set_option linter.unusedSimpArgs false
set_option linter.unusedVariables false
namespace Go.Proofs.Ytdjbhbefghihcaa
open Go.RowKit Go.Esc
/-- What the copy is. -/
def CopyOk (w : World) (g : Nat) (at' : Int) (i : Nat) (v7 v8 : Value) : Prop :=
  (v7 = .pointer none ∧ v8 = S [] ∧ (at' < 0 ∨ (i : Int) ≤ at')) ∨ ∃ b was, v7 = .pointer (some ⟨b, 0, none⟩) ∧ v8 = S was ∧ g < b ∧ Dig w b was ∧ was.length ≤ 4000
theorem CopyOk.but {w w' : World} {g : Nat} {at' : Int} {i : Nat} {v7 v8 : Value} (h : CopyOk w g at' i v7 v8) (hb : But g w w') : CopyOk w' g at' i v7 v8 := by
  rcases h with h | ⟨b, was, h1, h2, h3, h4, h5⟩
  · exact .inl h
  · exact .inr ⟨b, was, h1, h2, h3, h4.but hb (by omega), h5⟩
theorem CopyOk.pu {w w' : World} {g : Nat} {at' : Int} {i : Nat} {v7 v8 : Value} (h : CopyOk w g at' i v7 v8) (hb : Pu w w') : CopyOk w' g at' i v7 v8 := by
  rcases h with h | ⟨b, was, h1, h2, h3, h4, h5⟩
  · exact .inl h
  · exact .inr ⟨b, was, h1, h2, h3, h4.pu hb, h5⟩
theorem CopyOk.next {w : World} {g : Nat} {at' : Int} {i : Nat} {v7 v8 : Value} (h : CopyOk w g at' i v7 v8) (hne : (i : Int) ≠ at') : CopyOk w g at' (i+1) v7 v8 := by
  rcases h with ⟨h1, h2, h3⟩ | h
  · exact .inl ⟨h1, h2, by omega⟩
  · exact .inr h
set_option maxRecDepth 100000 in
set_option maxHeartbeats 3200000 in
theorem digestParts_walk {w : World} (a : Option Addr) (len cap : Nat) (zs : List ByteArray) (hz : IsStrs w a len cap zs) (at' : Int) (_ : (Lit.int .i64 at').wf = true) :
    Calls Try.prog 12 #[.slice a len cap, .int .i64 at'] w fun e w' => e = .returned (.bool true) ∧ Pu w w' := by
  obtain ⟨L, hL, hlm⟩ := hz.txt
  clear hz
  by_cases g1 : 20 < len
  · have q1 : (20 : Int) < len := by omega
    go_enter Try.func12, Try.ntmps12
    go_wp2_with (go_at_call 40; refine (alive2 _).mono ?_; rintro e w1 ⟨rfl, hp1⟩)
    go_ret
    exact ⟨rfl, hp1⟩
  have q1 : decide ((20 : Int) < len) = false := by simp; omega
  have hll := hL.length
  have hln := hL.none
  have HL := Lib.hid hL
  have HG := Lib.hid g1
  clear hL g1
  go_enter Try.func12, Try.ntmps12
  go_wp2_with (go_at_call 40; refine (alive2 _).mono ?_; rintro e w1 ⟨rfl, hp1⟩)
  have hd0 := Dig.new w1 38
  have hb0 := (Pu.refl w1).alloc (.cells (dcells false zero8 [] 0).toArray 38)
  go_loopw [6, 7, 8, 9] (fun v6 v7 v8 v9 wr => ∃ (i : Nat) (tot : Bs), i ≤ len ∧ tot.length ≤ 200 * i ∧ v6 = S tot ∧ v9 = .int .i64 (i : Int) ∧ Dig wr w1.heap.size tot ∧ CopyOk wr w1.heap.size at' i v7 v8 ∧ Below w1.heap.size w1 wr) (fun _ _ _ v _ => len - (intOf v).toNat)
  case atStart => exact ⟨0, [], by omega, by simp, rfl, rfl, hd0, .inl ⟨rfl, rfl, by omega⟩, hb0⟩
  case round =>
    clear hd0 hb0
    obtain ⟨i, tot, hi, htl, rfl, rfl, hd1, hco, hbel⟩ := hrel
    have h12 := HG.out
    by_cases hlt : i < len
    · rcases a with _ | x
      · have := hln rfl; omega
      obtain ⟨t, ht⟩ : ∃ t, t = L[i]'(by omega) := ⟨_, rfl⟩
      have hcell : ∀ w', Below w1.heap.size w1 w' → w'.cell? (x.add i) = some (S t) := by
        intro w' hb
        have hT := (HL.out.keep (hp1.trans (Below.mono hb (Nat.le_refl _)))).cell x rfl i (by omega)
        rw [← ht] at hT
        exact hT.1
      have hc := hcell _ hbel
      have HC := Lib.hid hcell
      have hi1 : (i : Int) < len := by omega
      have hi0 : (0 : Int) ≤ i := by omega
      clear ht hcell
      by_cases h100 : 200 < t.length
      · have q5 : (200 : Int) < t.length := by omega
        go_wp2_with fail
        go_ret
        exact ⟨rfl, hp1.trans hbel⟩
      have q5 : decide ((200 : Int) < t.length) = false := by simp; omega
      have htlen2 : tot.length + t.length ≤ 1000000 := by omega
      by_cases hat : (i : Int) = at'
      · subst hat
        clear hco
        have htl4 : tot.length ≤ 4000 := by omega
        obtain ⟨r3, hr3⟩ : ∃ r, r = i % 3 := ⟨_, rfl⟩
        have hm3 : ((i : Int)).tmod 3 = r3 := by rw [Int.tmod_eq_emod_of_nonneg (by omega)]; omega
        have hzz : ¬ (9223372036854775807 < tot.length + t.length) := by omega
        obtain ⟨d, hdd⟩ : ∃ d, d = sha (tot ++ t) := ⟨_, rfl⟩
        have hR := fun w => refSum (tot ++ t) (by simp; omega) w
        have hT := fun w g h => digestSum g (tot ++ t) (by simp; omega) w h
        rw [← hdd] at hR hT
        have HR := Lib.hid hR
        have HT := Lib.hid hT
        have HTL := Lib.hid htl
        have H100 := Lib.hid h100
        have htlen : (tot ++ t).length ≤ 5000 := by simp; omega
        clear hR hT hdd hr3 htl h100
        by_cases h3 : r3 = 0
        · have h3' : (r3 : Int) = 0 := by omega
          clear h3
          go_wp2_with (first
            | (go_at_call 46; refine (digestCopy _ _ _ hd1).mono ?_; rintro e w3 ⟨b, rfl, hgb, hdb, hp3⟩; have hgl := hd1.lt; replace hd1 := hd1.pu hp3; replace hbel := hbel.trans (Below.mono hp3 hbel.size); have hc := HC.out _ hbel; have hco : CopyOk _ w1.heap.size i (i + 1) (.pointer (some ⟨b, 0, none⟩)) (S tot) := .inr ⟨b, tot, rfl, rfl, by omega, hdb, htl4⟩)
            | (go_at_call 43; refine (digestAdd w1.heap.size tot t (by simpa using htlen2) _ hd1).mono ?_
               rintro e w3 ⟨rfl, hb3, hd1'⟩; replace hbel := But.below hbel hb3 (Nat.le_refl _) hbel.size; replace hco := hco.but hb3; have hc := HC.out _ hbel)
            | (go_at_call 44; refine (HT.out _ _ hd1').mono ?_; rintro e w4 ⟨rfl, hp⟩; replace hd1' := hd1'.pu hp; replace hco := hco.pu hp; replace hbel := hbel.trans (Below.mono hp hbel.size))
            | (go_at_call 45; refine (digestLen _ _ _ hd1').mono ?_; rintro e w4 ⟨rfl, rfl⟩)
            | (go_at_call 42; refine (HR.out _).mono ?_; rintro e w4 ⟨rfl, hp⟩; replace hd1' := hd1'.pu hp; replace hco := hco.pu hp; replace hbel := hbel.trans (Below.mono hp hbel.size)))
          go_roundw
          case rel =>
            have a1 := HTL.out
            have a2 := H100.out
            exact ⟨i + 1, tot ++ t, by omega, by simp; omega, rfl, by go_num, hd1', hco, hbel⟩
          case measure => simp [intOf]; omega
        · have h3' : ((r3 : Int) == 0) = false := by simp; omega
          have h3'' : ¬ ((r3 : Int) = 0) := by omega
          clear h3
          go_wp2_with (first
            | (go_at_call 46; refine (digestCopy _ _ _ hd1).mono ?_; rintro e w3 ⟨b, rfl, hgb, hdb, hp3⟩; have hgl := hd1.lt; replace hd1 := hd1.pu hp3; replace hbel := hbel.trans (Below.mono hp3 hbel.size); have hc := HC.out _ hbel; have hco : CopyOk _ w1.heap.size i (i + 1) (.pointer (some ⟨b, 0, none⟩)) (S tot) := .inr ⟨b, tot, rfl, rfl, by omega, hdb, htl4⟩)
            | (go_at_call 43; refine (digestAdd w1.heap.size tot t (by simpa using htlen2) _ hd1).mono ?_
               rintro e w3 ⟨rfl, hb3, hd1'⟩; replace hbel := But.below hbel hb3 (Nat.le_refl _) hbel.size; replace hco := hco.but hb3; have hc := HC.out _ hbel)
            | (go_at_call 45; refine (digestLen _ _ _ hd1').mono ?_; rintro e w4 ⟨rfl, rfl⟩))
          go_roundw
          case rel =>
            have a1 := HTL.out
            have a2 := H100.out
            exact ⟨i + 1, tot ++ t, by omega, by simp; omega, rfl, by go_num, hd1', hco, hbel⟩
          case measure => simp [intOf]; omega
      · have hat' : ((i : Int) == at') = false := by simp; exact hat
        replace hco := hco.next hat
        obtain ⟨r3, hr3⟩ : ∃ r, r = i % 3 := ⟨_, rfl⟩
        have hm3 : ((i : Int)).tmod 3 = r3 := by rw [Int.tmod_eq_emod_of_nonneg (by omega)]; omega
        have hzz : ¬ (9223372036854775807 < tot.length + t.length) := by omega
        obtain ⟨d, hdd⟩ : ∃ d, d = sha (tot ++ t) := ⟨_, rfl⟩
        have hR := fun w => refSum (tot ++ t) (by simp; omega) w
        have hT := fun w g h => digestSum g (tot ++ t) (by simp; omega) w h
        rw [← hdd] at hR hT
        have HR := Lib.hid hR
        have HT := Lib.hid hT
        have HTL := Lib.hid htl
        have H100 := Lib.hid h100
        have htlen : (tot ++ t).length ≤ 5000 := by simp; omega
        clear hR hT hdd hr3 htl h100
        by_cases h3 : r3 = 0
        · have h3' : (r3 : Int) = 0 := by omega
          clear h3
          go_wp2_with (first
            | (go_at_call 46; refine (digestCopy _ _ _ hd1).mono ?_; rintro e w3 ⟨b, rfl, hgb, hdb, hp3⟩; have hgl := hd1.lt; replace hd1 := hd1.pu hp3; replace hbel := hbel.trans (Below.mono hp3 hbel.size); have hc := HC.out _ hbel; have hco : CopyOk _ w1.heap.size i (i + 1) (.pointer (some ⟨b, 0, none⟩)) (S tot) := .inr ⟨b, tot, rfl, rfl, by omega, hdb, htl4⟩)
            | (go_at_call 43; refine (digestAdd w1.heap.size tot t (by simpa using htlen2) _ hd1).mono ?_
               rintro e w3 ⟨rfl, hb3, hd1'⟩; replace hbel := But.below hbel hb3 (Nat.le_refl _) hbel.size; replace hco := hco.but hb3; have hc := HC.out _ hbel)
            | (go_at_call 44; refine (HT.out _ _ hd1').mono ?_; rintro e w4 ⟨rfl, hp⟩; replace hd1' := hd1'.pu hp; replace hco := hco.pu hp; replace hbel := hbel.trans (Below.mono hp hbel.size))
            | (go_at_call 45; refine (digestLen _ _ _ hd1').mono ?_; rintro e w4 ⟨rfl, rfl⟩)
            | (go_at_call 42; refine (HR.out _).mono ?_; rintro e w4 ⟨rfl, hp⟩; replace hd1' := hd1'.pu hp; replace hco := hco.pu hp; replace hbel := hbel.trans (Below.mono hp hbel.size)))
          go_roundw
          case rel =>
            have a1 := HTL.out
            have a2 := H100.out
            exact ⟨i + 1, tot ++ t, by omega, by simp; omega, rfl, by go_num, hd1', hco, hbel⟩
          case measure => simp [intOf]; omega
        · have h3' : ((r3 : Int) == 0) = false := by simp; omega
          have h3'' : ¬ ((r3 : Int) = 0) := by omega
          clear h3
          go_wp2_with (first
            | (go_at_call 46; refine (digestCopy _ _ _ hd1).mono ?_; rintro e w3 ⟨b, rfl, hgb, hdb, hp3⟩; have hgl := hd1.lt; replace hd1 := hd1.pu hp3; replace hbel := hbel.trans (Below.mono hp3 hbel.size); have hc := HC.out _ hbel; have hco : CopyOk _ w1.heap.size i (i + 1) (.pointer (some ⟨b, 0, none⟩)) (S tot) := .inr ⟨b, tot, rfl, rfl, by omega, hdb, htl4⟩)
            | (go_at_call 43; refine (digestAdd w1.heap.size tot t (by simpa using htlen2) _ hd1).mono ?_
               rintro e w3 ⟨rfl, hb3, hd1'⟩; replace hbel := But.below hbel hb3 (Nat.le_refl _) hbel.size; replace hco := hco.but hb3; have hc := HC.out _ hbel)
            | (go_at_call 45; refine (digestLen _ _ _ hd1').mono ?_; rintro e w4 ⟨rfl, rfl⟩))
          go_roundw
          case rel =>
            have a1 := HTL.out
            have a2 := H100.out
            exact ⟨i + 1, tot ++ t, by omega, by simp; omega, rfl, by go_num, hd1', hco, hbel⟩
          case measure => simp [intOf]; omega
    · obtain rfl : i = len := by omega
      have hlt' : decide ((i : Int) < i) = false := by simp
      obtain ⟨d, hdd⟩ : ∃ d, d = sha tot := ⟨_, rfl⟩
      have hR := fun w => refSum tot (by omega) w
      have hT := fun w g h => digestSum g tot (by omega) w h
      rw [← hdd] at hR hT
      have HR := Lib.hid hR
      have HT := Lib.hid hT
      clear hR hT hdd
      rcases hco with ⟨rfl, rfl, hzz⟩ | ⟨b, was, rfl, rfl, hgb, hcd, hwl⟩
      · rcases (by omega : at' < 0 ∨ (0 ≤ at' ∧ (i : Int) ≤ at')) with hA | ⟨hA, hB⟩
        · clear hzz
          go_wp2_with (first
            | (go_at_call 43; refine (digestAdd_nil _ _).mono ?_; rintro e w4 ⟨rfl, rfl⟩)
            | (go_at_call 45; refine (digestLen_nil _).mono ?_; rintro e w4 ⟨rfl, rfl⟩)
            | (go_at_call 46; refine (digestCopy_nil _).mono ?_; rintro e w4 ⟨rfl, rfl⟩)
            | (go_at_call 44; first
               | (with_reducible refine (HT.out _ _ hd1).mono ?_
                  rintro e w4 ⟨rfl, hp⟩; replace hbel := hbel.trans (Below.mono hp hbel.size))
               | (refine (digestSum_nil _).mono ?_; rintro e w4 ⟨rfl, rfl⟩))
            | (go_at_call 42; refine (HR.out _).mono ?_; rintro e w4 ⟨rfl, hp⟩; replace hbel := hbel.trans (Below.mono hp hbel.size)))
          go_ret
          exact ⟨rfl, hp1.trans hbel⟩
        · have hA' : decide (at' < 0) = false := by simp; omega
          clear hzz
          go_wp2_with (first
            | (go_at_call 43; refine (digestAdd_nil _ _).mono ?_; rintro e w4 ⟨rfl, rfl⟩)
            | (go_at_call 45; refine (digestLen_nil _).mono ?_; rintro e w4 ⟨rfl, rfl⟩)
            | (go_at_call 46; refine (digestCopy_nil _).mono ?_; rintro e w4 ⟨rfl, rfl⟩)
            | (go_at_call 44; first
               | (with_reducible refine (HT.out _ _ hd1).mono ?_
                  rintro e w4 ⟨rfl, hp⟩; replace hbel := hbel.trans (Below.mono hp hbel.size))
               | (refine (digestSum_nil _).mono ?_; rintro e w4 ⟨rfl, rfl⟩))
            | (go_at_call 42; refine (HR.out _).mono ?_; rintro e w4 ⟨rfl, hp⟩; replace hbel := hbel.trans (Below.mono hp hbel.size)))
          go_ret
          exact ⟨rfl, hp1.trans hbel⟩
      · obtain ⟨dc, hdc⟩ : ∃ d, d = sha (was ++ [33]) := ⟨_, rfl⟩
        have hRC := fun w => refSum (was ++ [33]) (by simp; omega) w
        have hTC := fun w h => digestSum b (was ++ [33]) (by simp; omega) w h
        have hAC := fun w h => digestAdd b was [33] (by simp; omega) w h
        have k33 : (ByteArray.mk #[33]) = bs [33] := rfl
        have hz9 : ¬ (9223372036854775807 < was.length + 1) := by omega
        rw [← hdc] at hRC hTC
        have HRC := Lib.hid hRC
        have HTC := Lib.hid hTC
        have HAC := Lib.hid hAC
        clear hRC hTC hAC hdc
        rcases (by omega : at' < 0 ∨ (0 ≤ at' ∧ (i : Int) ≤ at') ∨ (0 ≤ at' ∧ at' < (i : Int))) with hA | ⟨hA, hB⟩ | ⟨hA, hB⟩
        · skip
          go_wp2_with (first
            | (go_at_call 43; first
               | (refine (HAC.out _ hcd).mono ?_; rintro e w4 ⟨rfl, hb4, hcd4⟩; clear hcd; replace hd1 := hd1.but hb4 (by omega); replace hbel := But.below hbel hb4 (by omega) hbel.size)
               | (refine (digestAdd_nil _ _).mono ?_; rintro e w4 ⟨rfl, rfl⟩))
            | (go_at_call 45; refine (digestLen_nil _).mono ?_; rintro e w4 ⟨rfl, rfl⟩)
            | (go_at_call 46; refine (digestCopy_nil _).mono ?_; rintro e w4 ⟨rfl, rfl⟩)
            | (go_at_call 44; first
               | (with_reducible refine (HTC.out _ hcd4).mono ?_
                  rintro e w4 ⟨rfl, hp⟩; clear hcd4; replace hd1 := hd1.pu hp; replace hbel := hbel.trans (Below.mono hp hbel.size))
               | (with_reducible refine (HT.out _ _ hd1).mono ?_
                  rintro e w4 ⟨rfl, hp⟩; replace hbel := hbel.trans (Below.mono hp hbel.size); clear hd1)
               | (refine (digestSum_nil _).mono ?_; rintro e w4 ⟨rfl, rfl⟩))
            | (go_at_call 42; first
               | (with_reducible refine (HRC.out _).mono ?_
                  rintro e w4 ⟨rfl, hp⟩; replace hd1 := hd1.pu hp; replace hbel := hbel.trans (Below.mono hp hbel.size); clear HRC)
               | (refine (HR.out _).mono ?_; rintro e w4 ⟨rfl, hp⟩; replace hbel := hbel.trans (Below.mono hp hbel.size))))
          go_ret
          exact ⟨rfl, hp1.trans hbel⟩
        · have hA' : decide (at' < 0) = false := by simp; omega
          go_wp2_with (first
            | (go_at_call 43; first
               | (refine (HAC.out _ hcd).mono ?_; rintro e w4 ⟨rfl, hb4, hcd4⟩; clear hcd; replace hd1 := hd1.but hb4 (by omega); replace hbel := But.below hbel hb4 (by omega) hbel.size)
               | (refine (digestAdd_nil _ _).mono ?_; rintro e w4 ⟨rfl, rfl⟩))
            | (go_at_call 45; refine (digestLen_nil _).mono ?_; rintro e w4 ⟨rfl, rfl⟩)
            | (go_at_call 46; refine (digestCopy_nil _).mono ?_; rintro e w4 ⟨rfl, rfl⟩)
            | (go_at_call 44; first
               | (with_reducible refine (HTC.out _ hcd4).mono ?_
                  rintro e w4 ⟨rfl, hp⟩; clear hcd4; replace hd1 := hd1.pu hp; replace hbel := hbel.trans (Below.mono hp hbel.size))
               | (with_reducible refine (HT.out _ _ hd1).mono ?_
                  rintro e w4 ⟨rfl, hp⟩; replace hbel := hbel.trans (Below.mono hp hbel.size); clear hd1)
               | (refine (digestSum_nil _).mono ?_; rintro e w4 ⟨rfl, rfl⟩))
            | (go_at_call 42; first
               | (with_reducible refine (HRC.out _).mono ?_
                  rintro e w4 ⟨rfl, hp⟩; replace hd1 := hd1.pu hp; replace hbel := hbel.trans (Below.mono hp hbel.size); clear HRC)
               | (refine (HR.out _).mono ?_; rintro e w4 ⟨rfl, hp⟩; replace hbel := hbel.trans (Below.mono hp hbel.size))))
          go_ret
          exact ⟨rfl, hp1.trans hbel⟩
        · have hA' : decide (at' < 0) = false := by simp; omega
          have hB' : decide ((i : Int) ≤ at') = false := by simp; omega
          go_wp2_with (first
            | (go_at_call 43; first
               | (refine (HAC.out _ hcd).mono ?_; rintro e w4 ⟨rfl, hb4, hcd4⟩; clear hcd; replace hd1 := hd1.but hb4 (by omega); replace hbel := But.below hbel hb4 (by omega) hbel.size)
               | (refine (digestAdd_nil _ _).mono ?_; rintro e w4 ⟨rfl, rfl⟩))
            | (go_at_call 45; refine (digestLen_nil _).mono ?_; rintro e w4 ⟨rfl, rfl⟩)
            | (go_at_call 46; refine (digestCopy_nil _).mono ?_; rintro e w4 ⟨rfl, rfl⟩)
            | (go_at_call 44; first
               | (with_reducible refine (HTC.out _ hcd4).mono ?_
                  rintro e w4 ⟨rfl, hp⟩; clear hcd4; replace hd1 := hd1.pu hp; replace hbel := hbel.trans (Below.mono hp hbel.size))
               | (with_reducible refine (HT.out _ _ hd1).mono ?_
                  rintro e w4 ⟨rfl, hp⟩; replace hbel := hbel.trans (Below.mono hp hbel.size); clear hd1)
               | (refine (digestSum_nil _).mono ?_; rintro e w4 ⟨rfl, rfl⟩))
            | (go_at_call 42; first
               | (with_reducible refine (HRC.out _).mono ?_
                  rintro e w4 ⟨rfl, hp⟩; replace hd1 := hd1.pu hp; replace hbel := hbel.trans (Below.mono hp hbel.size); clear HRC)
               | (refine (HR.out _).mono ?_; rintro e w4 ⟨rfl, hp⟩; replace hbel := hbel.trans (Below.mono hp hbel.size))))
          go_ret
          exact ⟨rfl, hp1.trans hbel⟩
end Go.Proofs.Ytdjbhbefghihcaa
