/- Chapter 13: RecordTwo. -/
import Derived.Test.YticdbilkhkfopaaGreatT18
import Derived.Test.YticdbilkhkfopaaGreatTxt
set_option linter.unusedSimpArgs false
set_option linter.unusedVariables false
namespace Go.Proofs.YticdbilkhkfopaaGreat
open Go.RowKit Go.Esc
/-- Two directions. -/
structure Two (Go1 Gi1 Go2 Gi2 : Nat → Prop) (w0 w : World) (o1 i1 o2 i2 : Nat) (k1 k2 : Bs) (x y : Nat) : Prop where
  a : OI Go1 Gi1 w0 w o1 i1 k1 k1 x x x (inOrd x)
  b : OI Go2 Gi2 w0 w o2 i2 k2 k2 y y y (inOrd y)
  d : ∀ g, (Go1 g ∨ Gi1 g) → ¬ (Go2 g ∨ Gi2 g)
theorem Two.swap {Go1 Gi1 Go2 Gi2 : Nat → Prop} {w0 w : World} {o1 i1 o2 i2 : Nat} {k1 k2 : Bs} {x y : Nat} (h : Two Go1 Gi1 Go2 Gi2 w0 w o1 i1 o2 i2 k1 k2 x y) : Two Go2 Gi2 Go1 Gi1 w0 w o2 i2 o1 i1 k2 k1 y x := ⟨h.b, h.a, fun g h2 h1 => h.d g h1 h2⟩
theorem OI.domO {Go Gi : Nat → Prop} {w0 w : World} {ob ib : Nat} {k1 k2 : Bs} {m1 n m2 : Nat} {s : InS} (h : OI Go Gi w0 w ob ib k1 k2 m1 n m2 s) : ∀ g, (Go g ∨ Gi g) → g < w.heap.size := fun g hg => by
  rcases hg with h1 | h1
  · exact h.o.dom g h1
  · exact h.i.dom g h1
/-- One text goes in the first direction. -/
theorem twoSeal {Go1 Gi1 Go2 Gi2 : Nat → Prop} {w0 w : World} {o1 i1 o2 i2 : Nat} {k1 k2 : Bs} {x y : Nat} (h : Two Go1 Gi1 Go2 Gi2 w0 w o1 i1 o2 i2 k1 k2 x y) (hk : k1.length = 32) (p pp : Bs) (hp : padL p = some pp) (hx : x < 400) (hl : p.length ≤ 140737488351232) :
    Calls Tryz.prog 55 #[.pointer (some ⟨o1, 0, none⟩), S p] w fun e w' => e = .returned (.tuple #[S (recL k1 x p), .int .i64 0]) ∧ (OI (Gw Go1 w w') Gi1 w0 w' o1 i1 k1 k1 (x+1) (x+1) x (inOrd x) ∧ OI Go2 Gi2 w0 w' o2 i2 k2 k2 y y y (inOrd y) ∧ ∀ g, (Gw Go1 w w' g ∨ Gi1 g) → ¬ (Go2 g ∨ Gi2 g)) := by
  refine (oiSeal h.a hk p pp hp hx (by omega) hl).mono ?_
  rintro e w' ⟨rfl, ha, hc⟩
  refine ⟨rfl, ha, h.b.cg hc (fun g h1 h2 => h.d g (.inl h1) (.inl h2)) (fun g h1 h2 => h.d g (.inl h1) (.inr h2)) h.a.lo, fun g hg hh => ?_⟩
  have h9 := h.b.domO g hh
  rcases hg with (h1 | h1) | h1
  · exact h.d g (.inl h1) hh
  · omega
  · exact h.d g (.inr h1) hh
theorem twoOpen {Go1 Gi1 Go2 Gi2 : Nat → Prop} {w0 w : World} {o1 i1 o2 i2 : Nat} {k1 k2 : Bs} {x y : Nat} (ha : OI Go1 Gi1 w0 w o1 i1 k1 k1 (x+1) (x+1) x (inOrd x)) (hb : OI Go2 Gi2 w0 w o2 i2 k2 k2 y y y (inOrd y)) (hd : ∀ g, (Go1 g ∨ Gi1 g) → ¬ (Go2 g ∨ Gi2 g)) (hk : k1.length = 32) (p pp : Bs) (hp : padL p = some pp) (hx : x < 400) :
    Calls Tryz.prog 61 #[.pointer (some ⟨i1, 0, none⟩), S (recL k1 x p)] w fun e w' => ∃ g cap Gi, e = .returned (.tuple #[.slice (some ⟨g, 0, none⟩) 1 cap, .int .i64 0]) ∧ w'.cell? ⟨g, 0, none⟩ = some (S p) ∧ Two Go1 Gi Go2 Gi2 w0 w' o1 i1 o2 i2 k1 k2 (x+1) y := by
  have hrl := recL_le k1 x hp
  refine (oiOpen ha hk (recL k1 x p) (by omega) (by omega)).mono ?_
  rw [openS_ord k1 x p pp hk hp hx]
  rintro e w' ⟨v, rfl, ho, ha', hc⟩
  change World.ownsRow _ _ _ 1 v 1 _ at ho
  obtain ⟨g, cap, rfl, hg, -⟩ := own_form ho (by decide)
  have ce := ho.cellAt 0 (by decide)
  simp at ce
  refine ⟨g, cap, _, rfl, ce, ha', hb.cg hc (fun g h1 h2 => hd g (.inr h1) (.inl h2)) (fun g h1 h2 => hd g (.inr h1) (.inr h2)) ha.li, fun g' hg' hh => ?_⟩
  have h9 := hb.domO g' hh
  rcases hg' with h1 | ⟨h1 | h1, -⟩
  · exact hd g' (.inl h1) hh
  · exact hd g' (.inr h1) hh
  · omega
set_option maxRecDepth 100000 in
set_option maxHeartbeats 3200000 in
theorem recordTwo_walk {w : World} (s : ByteArray) (hs : s.size ≤ maxLen) (s' : ByteArray) (hs' : s'.size ≤ maxLen) (a : Option Addr) (len cap : Nat) (zs : List ByteArray) (hz : IsStrs w a len cap zs) :
    Calls Tryz.prog 16 #[.string s, .string s', .slice a len cap] w fun e w' => e = .returned (.bool true) ∧ Pu w w' := by
  obtain ⟨k0, rfl⟩ : ∃ a, s = bs a := ⟨_, bs_eta s⟩
  obtain ⟨k0', rfl⟩ : ∃ c, s' = bs c := ⟨_, bs_eta s'⟩
  have hk0 : k0.length ≤ 9223372036854775807 := by rw [bs_size] at hs; unfold maxLen at hs; omega
  have hk0' : k0'.length ≤ 9223372036854775807 := by rw [bs_size] at hs'; unfold maxLen at hs'; omega
  obtain ⟨L, hL, hlm⟩ := hz.txt
  clear hz hs hs'
  by_cases g1 : 20 < len
  · have q1 : (20 : Int) < len := by omega
    go_enter Tryz.func16, Tryz.ntmps16
    go_wp2_with (go_at_call 53; refine (alive13 _).mono ?_; rintro e w1 ⟨rfl, hp1⟩)
    go_ret
    exact ⟨rfl, hp1⟩
  have q1 : ¬ (20 : Int) < len := by omega
  have hll := hL.length
  have hln := hL.none
  have HL := Lib.hid hL
  have hf1 := fun w => fillAny k0 32 hk0 (by decide) w
  have hf2 := fun w => fillAny k0' 32 hk0' (by decide) w
  have hl1 := fillL_length k0 32
  have hl2 := fillL_length k0' 32
  obtain ⟨key1, he1⟩ : ∃ k, k = fillL k0 32 := ⟨_, rfl⟩
  obtain ⟨key2, he2⟩ : ∃ k, k = fillL k0' 32 := ⟨_, rfl⟩
  rw [← he1] at hf1 hl1
  rw [← he2] at hf2 hl2
  have HF1 := Lib.hid hf1
  have HF2 := Lib.hid hf2
  have HL1 := Lib.hid hl1
  have HL2 := Lib.hid hl2
  have hlen20 : len ≤ 20 := by omega
  clear hL hf1 hf2 hl1 hl2 he1 he2 g1
  have T1 := Lib.hid True.intro
  have T2 := Lib.hid True.intro
  have T3 := Lib.hid True.intro
  go_enter Tryz.func16, Tryz.ntmps16
  go_wp2_with (first
    | (go_at_call 53; refine (alive13 _).mono ?_; rintro e w1 ⟨rfl, hp1⟩)
    | (go_at_call 26; clear T1; refine (HF1.out _).mono ?_; rintro e w2 ⟨rfl, rfl⟩)
    | (go_at_call 26; refine (HF2.out _).mono ?_; rintro e w2 ⟨rfl, rfl⟩)
    | (go_at_call 54; clear T2; refine (newOut key1 HL1.out _).mono ?_; rintro e w3 ⟨o1, rfl, ho3, hp3⟩)
    | (go_at_call 54; refine (newOut key2 HL2.out _).mono ?_; rintro e w4 ⟨o2, rfl, ho4, hp4⟩)
    | (go_at_call 59; clear T3; refine (newIn key1 HL1.out _).mono ?_; rintro e w5 ⟨i1, rfl, hi5, hp5⟩)
    | (go_at_call 59; refine (newIn key2 HL2.out _).mono ?_; rintro e w6 ⟨i2, rfl, hi6, hp6⟩
       have hz1 := hp1.size
       have hz3 := hp3.size
       have hz4 := hp4.size
       have hz5 := hp5.size
       have hz6 := hp6.size
       have hpw := (((hp1.trans hp3).trans hp4).trans hp5).trans hp6
       have two6 : Two _ _ _ _ w w6 o1 i1 o2 i2 key1 key2 0 0 := ⟨⟨((ho3.pu hp4).pu hp5).pu hp6, hi5.pu hp6, (by rintro g (h | h) (h' | h'); exact h; exact h; exact h'; omega), hpw, (by rintro g (h | h); exact h.elim; omega), (by rintro g (h | h); exact h.elim; omega)⟩, ⟨(ho4.pu hp5).pu hp6, hi6, (by rintro g (h | h) (h' | h'); exact h; exact h; exact h'; omega), hpw, (by rintro g (h | h); exact h.elim; omega), (by rintro g (h | h); exact h.elim; omega)⟩, (by rintro g ((h | h) | (h | h)) ((h' | h') | (h' | h')) <;> first | exact h | exact h' | omega)⟩
       have TWO := Lib.hid two6
       clear two6 ho3 ho4 hi5 hi6))
  go_loopw [57, 11, 12] (fun x u v wr => ∃ (i n m : Nat) (Go1 Gi1 Go2 Gi2 : Nat → Prop), i ≤ len ∧ n ≤ i ∧ m ≤ i ∧ x = .int .i64 (i : Int) ∧ u = .int .i64 (n : Int) ∧ v = .int .i64 (m : Int) ∧ Two Go1 Gi1 Go2 Gi2 w wr o1 i1 o2 i2 key1 key2 n m) (fun x _ _ _ => len - (intOf x).toNat)
  case atStart => exact ⟨0, 0, 0, _, _, _, _, by omega, by omega, by omega, rfl, rfl, rfl, TWO.out⟩
  case round =>
    clear TWO hz1 hz3 hz4 hz5 hz6
    obtain ⟨i, n, m, Go1, Gi1, Go2, Gi2, hi, hn, hm, rfl, rfl, rfl, two⟩ := hrel
    by_cases hlt : i < len
    · rcases a with _ | x
      · have := hln rfl; omega
      obtain ⟨t, ht⟩ : ∃ t, t = L[i]'(by omega) := ⟨_, rfl⟩
      have hc : wr.cell? (x.add i) = some (S t) := by
        have hT := (HL.out.keep two.a.since).cell x rfl i (by omega)
        rw [← ht] at hT
        exact hT.1
      have hi1 : (i : Int) < len := by omega
      have hi0 : (0 : Int) ≤ i := by omega
      clear ht
      by_cases h300 : 300 < t.length
      · have q5 : (300 : Int) < t.length := by omega
        go_wp2_with fail
        go_ret
        exact ⟨rfl, two.a.since⟩
      have q5 : ¬ (300 : Int) < t.length := by omega
      obtain ⟨pp, hpp⟩ := padL_short (p := t) (by omega)
      have HPP := Lib.hid hpp
      clear hpp h300
      by_cases h3 : (i : Int) % 3 = 1
      · obtain ⟨r, hr⟩ : ∃ r, r = recL key2 m t := ⟨_, rfl⟩
        have HR := Lib.hid hr
        clear hr
        have tws := two.swap
        go_wp2_with (first
          | (go_at_call 55; refine (twoSeal tws HL2.out t _ HPP.out (by omega) (by omega)).mono ?_; rw [← HR.out]; rintro e w7 ⟨rfl, ta7, tb7, td7⟩)
          | (go_at_call 61; have hO := twoOpen ta7 tb7 td7 HL2.out t _ HPP.out (by omega); rw [← HR.out] at hO; refine hO.mono ?_; clear hO; rintro e w8 ⟨g8, q8, Gi8, rfl, ce8, two8⟩))
        go_roundw
        case rel => exact ⟨i + 1, n, m + 1, _, _, _, _, by omega, by omega, by omega, by go_num, rfl, by go_num, two8.swap⟩
        case measure => simp [intOf]; omega
      · obtain ⟨r, hr⟩ : ∃ r, r = recL key1 n t := ⟨_, rfl⟩
        have HR := Lib.hid hr
        clear hr
        go_wp2_with (first
          | (go_at_call 55; refine (twoSeal two HL1.out t _ HPP.out (by omega) (by omega)).mono ?_; rw [← HR.out]; rintro e w7 ⟨rfl, ta7, tb7, td7⟩)
          | (go_at_call 61; have hO := twoOpen ta7 tb7 td7 HL1.out t _ HPP.out (by omega); rw [← HR.out] at hO; refine hO.mono ?_; clear hO; rintro e w8 ⟨g8, q8, Gi8, rfl, ce8, two8⟩))
        go_roundw
        case rel => exact ⟨i + 1, n + 1, m, _, _, _, _, by omega, by omega, by omega, by go_num, by go_num, rfl, two8⟩
        case measure => simp [intOf]; omega
    · obtain rfl : i = len := by omega
      have hlt' : decide ((i : Int) < i) = false := by simp
      have T4 := Lib.hid True.intro
      have T5 := Lib.hid True.intro
      go_wp2_with (first
        | (go_at_call 56; clear T4; refine (outNext two.a.o).mono ?_; rintro e w9 ⟨rfl, rfl⟩)
        | (go_at_call 56; refine (outNext two.b.o).mono ?_; rintro e w9 ⟨rfl, rfl⟩)
        | (go_at_call 62; clear T5; refine (inNext two.a.i).mono ?_; rintro e w9 ⟨rfl, rfl⟩)
        | (go_at_call 62; refine (inNext two.b.i).mono ?_; rintro e w9 ⟨rfl, rfl⟩))
      go_ret
      exact ⟨ret_bool (by simp [inOrd]), two.a.since⟩
end Go.Proofs.YticdbilkhkfopaaGreat
