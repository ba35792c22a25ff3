/- Chapter 2: the first call, and DigestApart. -/
import Derived.Test.YtdjbhbefghihcaaSum
import Derived.Test.YtdjbhbefghihcaaHexEnc
set_option linter.unusedSimpArgs false
set_option linter.unusedVariables false
namespace Go.Proofs.Ytdjbhbefghihcaa
open Go.RowKit Go.Esc
def shaAbcHex : Bs := [98,97,55,56,49,54,98,102,56,102,48,49,99,102,101,97,52,49,52,49,52,48,100,101,53,100,97,101,50,50,50,51,98,48,48,51,54,49,97,51,57,54,49,55,55,97,57,99,98,52,49,48,102,102,54,49,102,50,48,48,49,53,97,100]
theorem abcHex : hex (sha [97,98,99]) = shaAbcHex := t1
theorem sha_length (l : Bs) : (sha l).length = 32 := by
  rw [sha_words, flat4]; rfl
set_option maxRecDepth 100000 in
set_option maxHeartbeats 3200000 in
theorem alive2 (w : World) : Calls Try.prog 40 #[] w fun e w' => e = .returned (.bool true) ∧ Pu w w' := by
  obtain ⟨d, hd⟩ : ∃ d, d = sha [97,98,99] := ⟨_, rfl⟩
  have hdl : d.length = 32 := by rw [hd]; exact sha_length _
  have hx : hex d = shaAbcHex := by rw [hd]; exact abcHex
  have hS := fun w => sum [97,98,99] (by decide) w
  have hH := fun w => hexOf d (by omega) w
  have hT := fun b w (h : Dig w b ([97] ++ [98,99])) => digestSum b _ (by decide) w h
  rw [show ([97] ++ [98,99] : Bs) = [97,98,99] from rfl, ← hd] at hT
  rw [← hd] at hS
  have hbq : (ByteArray.mk #[98,97,55,56,49,54,98,102,56,102,48,49,99,102,101,97,52,49,52,49,52,48,100,101,53,100,97,101,50,50,50,51,98,48,48,51,54,49,97,51,57,54,49,55,55,97,57,99,98,52,49,48,102,102,54,49,102,50,48,48,49,53,97,100]) = bs (hex d) := by rw [hx]; rfl
  obtain ⟨hexd, hhexd⟩ : ∃ h, h = hex d := ⟨_, rfl⟩
  rw [← hhexd] at hbq hH
  have HS := Lib.hid hS
  have HH := Lib.hid hH
  have HT := Lib.hid hT
  clear hS hH hT hd hx hhexd
  go_enter Try.func40, Try.ntmps40
  go_wp2_with (first
    | (refine wpList_box rfl 38 (.tmp 2) rfl (dcells false zero8 [] 0) (by rfl) ?_; intro w1 hr1 hp1 hz1; have hd1 : Dig w1 w.heap.size [] := ⟨_, _, hr1, .inl ⟨rfl, rfl⟩⟩; clear hr1)
    | (go_at_call 43; first
       | (refine (digestAdd w.heap.size [] [97] (by decide) _ hd1).mono ?_; rintro e w2 ⟨rfl, hb2, hd2⟩; clear hd1)
       | (refine (digestAdd w.heap.size ([] ++ [97]) [98, 99] (by decide) _ hd2).mono ?_; rintro e w3 ⟨rfl, hb3, hd3⟩; clear hd2; have hp3 : Pu w w3 := But.below (But.below hp1 hb2 (Nat.le_refl _) hp1.size) hb3 (Nat.le_refl _) (Nat.le_trans hp1.size hb2.size)))
    | (go_at_call 41; refine (HS.out _).mono ?_; rintro e w4 ⟨rfl, hp4⟩; replace hd3 := hd3.pu hp4; replace hp3 := hp3.trans hp4)
    | (go_at_call 79; refine (HH.out _).mono ?_; rintro e w4 ⟨rfl, hp4⟩; replace hd3 := hd3.pu hp4; replace hp3 := hp3.trans hp4)
    | (go_at_call 44; refine (HT.out _ _ hd3).mono ?_; rintro e w4 ⟨rfl, hp4⟩; replace hd3 := hd3.pu hp4; replace hp3 := hp3.trans hp4)
    | (go_at_call 45; refine (digestLen _ _ _ hd3).mono ?_; rintro e w4 ⟨rfl, rfl⟩))
  go_ret
  exact ⟨rfl, hp3⟩
set_option maxRecDepth 100000 in
set_option maxHeartbeats 3200000 in
theorem digestApart_walk (s : ByteArray) (_ : s.size ≤ maxLen) (s' : ByteArray) (_ : s'.size ≤ maxLen) (w : World) :
    Calls Try.prog 9 #[.string s, .string s'] w fun e w' => e = .returned (.bool true) ∧ Pu w w' := by
  obtain ⟨a, rfl⟩ : ∃ b, s = bs b := ⟨_, bs_eta s⟩
  obtain ⟨b, rfl⟩ : ∃ b, s' = bs b := ⟨_, bs_eta s'⟩
  by_cases hg : 300 < a.length
  · have g1 : (300 : Int) < a.length := by omega
    go_enter Try.func9, Try.ntmps9
    go_wp2_with (go_at_call 40; refine (alive2 _).mono ?_; rintro e w1 ⟨rfl, hp1⟩)
    go_ret
    exact ⟨rfl, hp1⟩
  by_cases hg2 : 300 < b.length
  · have g1 : decide ((300 : Int) < a.length) = false := by simp; omega
    have g2 : (300 : Int) < b.length := by omega
    go_enter Try.func9, Try.ntmps9
    go_wp2_with (go_at_call 40; refine (alive2 _).mono ?_; rintro e w1 ⟨rfl, hp1⟩)
    go_ret
    exact ⟨rfl, hp1⟩
  have g1 : decide ((300 : Int) < a.length) = false := by simp; omega
  have g2 : decide ((300 : Int) < b.length) = false := by simp; omega
  obtain ⟨da, hda⟩ : ∃ d, d = sha a := ⟨_, rfl⟩
  obtain ⟨db, hdb⟩ : ∃ d, d = sha b := ⟨_, rfl⟩
  obtain ⟨dc, hdc⟩ : ∃ d, d = sha (a ++ b) := ⟨_, rfl⟩
  have hal : da.length = 32 := by rw [hda]; exact sha_length _
  have hSa := fun w => sum a (by omega) w
  have hSb := fun w => sum b (by omega) w
  have hSc := fun w => sum (a ++ b) (by simp; omega) w
  have hTa := fun w g h => digestSum g a (by omega) w h
  have hTb := fun w g h => digestSum g b (by omega) w h
  have hTc := fun w g h => digestSum g (a ++ b) (by simp; omega) w h
  rw [← hda] at hSa hTa
  rw [← hdb] at hSb hTb
  rw [← hdc] at hSc hTc
  have hab : ¬ (9223372036854775807 < a.length + b.length) := by omega
  have A0 : ∀ w g, Dig w g [] → Calls Try.prog 43 #[.pointer (some ⟨g, 0, none⟩), S a] w fun e w' => e = .returned (.tuple #[]) ∧ But g w w' ∧ Dig w' g a := fun w g h => by
    have := digestAdd g [] a (by simp; omega) w h
    simpa using this
  have A1 : ∀ w g, Dig w g [] → Calls Try.prog 43 #[.pointer (some ⟨g, 0, none⟩), S b] w fun e w' => e = .returned (.tuple #[]) ∧ But g w w' ∧ Dig w' g b := fun w g h => by
    have := digestAdd g [] b (by simp; omega) w h
    simpa using this
  have A2 : ∀ w g, Dig w g a → Calls Try.prog 43 #[.pointer (some ⟨g, 0, none⟩), S b] w fun e w' => e = .returned (.tuple #[]) ∧ But g w w' ∧ Dig w' g (a ++ b) := fun w g h => digestAdd g a b (by omega) w h
  have HSa := Lib.hid hSa
  have HSb := Lib.hid hSb
  have HSc := Lib.hid hSc
  have HTa := Lib.hid hTa
  have HTb := Lib.hid hTb
  have HTc := Lib.hid hTc
  have HA0 := Lib.hid A0
  have HA1 := Lib.hid A1
  have HA2 := Lib.hid A2
  clear hSa hSb hSc hTa hTb hTc A0 A1 A2 hda hdb hdc
  go_enter Try.func9, Try.ntmps9
  go_wp2_with (first
    | (go_at_call 40; refine (alive2 _).mono ?_; rintro e w1 ⟨rfl, hp1⟩)
    | (go_at_call 43; first
       | (with_reducible refine (HA2.out _ _ hdA).mono ?_
          rintro e w4 ⟨rfl, hb, hdC⟩; clear hdA; replace hdB := hdB.but hb (by omega); replace hB := But.below hB hb (Nat.le_refl _) hB.size)
       | (with_reducible refine (HA1.out _ _ hd2).mono ?_
          rintro e w4 ⟨rfl, hb, hdB⟩; clear hd2; replace hdA := hdA.but hb (by omega); replace hB := But.below hB hb (by omega) hB.size)
       | (refine (HA0.out _ _ ((Dig.new w1 _).pu ((Pu.refl _).alloc _))).mono ?_
          rintro e w4 ⟨rfl, hb, hdA⟩
          have hd2 : Dig w4 (w1.heap.size + 1) [] := by
            have := (Dig.new (w1.alloc (.cells (dcells false zero8 [] 0).toArray 38)) 38).but hb (by simp)
            simpa using this
          have hB : Below w1.heap.size w1 w4 := But.below (((Pu.refl _).alloc _).alloc _) hb (Nat.le_refl _) (by simp; omega)))
    | (go_at_call 44; first
       | (with_reducible refine (HTa.out _ _ hdA).mono ?_
          rintro e w4 ⟨rfl, hp⟩; replace hdA := hdA.pu hp; replace hdB := hdB.pu hp; replace hB := hB.trans (Below.mono hp hB.size))
       | (with_reducible refine (HTc.out _ _ hdC).mono ?_
          rintro e w4 ⟨rfl, hp⟩; replace hdC := hdC.pu hp; replace hdB := hdB.pu hp; replace hB := hB.trans (Below.mono hp hB.size))
       | (with_reducible refine (HTb.out _ _ hdB).mono ?_
          rintro e w4 ⟨rfl, hp⟩; (try replace hdA := hdA.pu hp); (try replace hdC := hdC.pu hp); replace hdB := hdB.pu hp; replace hB := hB.trans (Below.mono hp hB.size)))
    | (go_at_call 41; first
       | (with_reducible refine (HSa.out _).mono ?_
          rintro e w4 ⟨rfl, hp⟩; replace hdC := hdC.pu hp; replace hdB := hdB.pu hp; replace hB := hB.trans (Below.mono hp hB.size))
       | (with_reducible refine (HSb.out _).mono ?_
          rintro e w4 ⟨rfl, hp⟩; replace hdC := hdC.pu hp; replace hdB := hdB.pu hp; replace hB := hB.trans (Below.mono hp hB.size))
       | (with_reducible refine (HSc.out _).mono ?_
          rintro e w4 ⟨rfl, hp⟩; replace hdC := hdC.pu hp; replace hdB := hdB.pu hp; replace hB := hB.trans (Below.mono hp hB.size))))
  go_ret
  exact ⟨rfl, hp1.trans hB⟩
end Go.Proofs.Ytdjbhbefghihcaa
