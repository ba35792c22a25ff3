/- Chapter 7: filling up, the first call, BoxTells. -/
import Derived.Test.YtdjbhbefghihcaaRefBox
set_option linter.unusedSimpArgs false
set_option linter.unusedVariables false
namespace Go.Proofs.Ytdjbhbefghihcaa
open Go.RowKit Go.Esc
def fillL (s : Bs) (n : Nat) : Bs := (s ++ List.replicate n 0).take n
theorem fillL_length (s : Bs) (n : Nat) : (fillL s n).length = n := by simp [fillL]
theorem fillL_step (s : Bs) (n : Nat) : fillL (s ++ [0]) n = fillL s n := by
  have h : List.replicate n (0 : UInt8) ++ [0] = [0] ++ List.replicate n 0 := by
    rw [show ([0] : List UInt8) = List.replicate 1 0 from rfl, List.replicate_append_replicate, List.replicate_append_replicate, Nat.add_comm]
  rw [fillL, List.append_assoc, ← h, ← List.append_assoc, List.take_append_of_le_length (by simp), fillL]
theorem fillL_done (s : Bs) (n : Nat) (h : n ≤ s.length) : fillL s n = s.take n := by
  rw [fillL, List.take_append_of_le_length h]
theorem fine_fill (k n : Bs) : fineL (fillL k 32) (fillL n 12) = true := by simp [fineL, fillL_length]
set_option maxRecDepth 100000 in
theorem lawFill (s : Bs) (n : Nat) (hn : n ≤ 1000) (w : World) :
    Calls Try.prog 48 #[S s, .int .i64 n] w fun e w' => e = .returned (S (fillL s n)) ∧ Pu w w' := by
  obtain ⟨tot, htot⟩ : ∃ t, t = fillL s n := ⟨_, rfl⟩
  have HTOT := Lib.hid htot
  have k0 : (ByteArray.mk #[0]) = bs [0] := rfl
  rw [← htot]
  clear htot
  go_enter Try.func48, Try.ntmps48
  go_wp2_with fail
  go_loopw [0] (fun sv wr => ∃ t : Bs, sv = S t ∧ fillL t n = tot ∧ Below w.heap.size w wr) (fun sv _ => match sv with | .string b => n - b.size | _ => 0)
  case atStart => exact ⟨s, rfl, HTOT.out.symm, Pu.refl w⟩
  case round =>
    obtain ⟨t, rfl, ht, hbel⟩ := hrel
    by_cases htn : t.length < n
    · have h1 : (t.length : Int) < n := by omega
      have h9 : ¬ (9223372036854775807 < t.length + 1) := by omega
      have HT := Lib.hid ht
      clear ht
      go_wp2_with fail
      go_roundw
      case rel => exact ⟨t ++ [0], by rfl, by rw [fillL_step]; exact HT.out, hbel⟩
      case measure => simp [bs, ByteArray.size]; omega
    · have h1 : decide ((t.length : Int) < n) = false := by simp; omega
      have h2 : (n : Int) ≤ t.length := by omega
      have h0 : (0 : Int) ≤ n := by omega
      rw [fillL_done _ _ (by omega)] at ht
      go_wp2_with fail
      go_ret
      exact ⟨rfl, hbel⟩
set_option maxRecDepth 100000 in
set_option maxHeartbeats 3200000 in
theorem alive7 (w : World) : Calls Try.prog 47 #[] w fun e w' => e = .returned (.bool true) ∧ Pu w w' := by
  obtain ⟨key, hkey⟩ : ∃ k, k = fillL [107, 101, 121] 32 := ⟨_, rfl⟩
  obtain ⟨nonce, hnonce⟩ : ∃ k, k = fillL [110] 12 := ⟨_, rfl⟩
  have hf : fineL key nonce = true := by rw [hkey, hnonce]; exact fine_fill _ _
  have hF1 := fun w => lawFill [107, 101, 121] 32 (by decide) w
  have hF2 := fun w => lawFill [110] 12 (by decide) w
  rw [← hkey, show ((32 : Nat) : Int) = 32 from rfl] at hF1
  rw [← hnonce, show ((12 : Nat) : Int) = 12 from rfl] at hF2
  have hS := fun w => boxSeal key nonce [112, 108, 97, 105, 110] [109, 111, 114, 101] (by decide) (by decide) w
  rw [sealR_yes _ _ hf] at hS
  have hsl := sealL_length key nonce [112, 108, 97, 105, 110] [109, 111, 114, 101]
  have hopen := open_seal key nonce [112, 108, 97, 105, 110] [109, 111, 114, 101] hf
  have hno : (openR key nonce (sealL key nonce [112, 108, 97, 105, 110] [109, 111, 114, 101]) [108, 101, 115, 115]) = ([], false) := by
    rw [hkey, hnonce]
    decide +kernel
  obtain ⟨s, hs⟩ : ∃ s, s = sealL key nonce [112, 108, 97, 105, 110] [109, 111, 114, 101] := ⟨_, rfl⟩
  rw [← hs] at hS hsl hopen hno
  have hsl' : s.length = 21 := hsl
  have hO1 := fun w => boxOpen key nonce s [109, 111, 114, 101] (by omega) (by decide) w
  have hO2 := fun w => boxOpen key nonce s [108, 101, 115, 115] (by omega) (by decide) w
  rw [hopen] at hO1
  rw [hno] at hO2
  have hS' : ∀ w, Calls Try.prog 49 #[S key, S nonce, S [112, 108, 97, 105, 110], S [109, 111, 114, 101]] w fun e w' => e = .returned (.tuple #[S s, .bool true]) ∧ Pu w w' := hS
  have hO1' : ∀ w, Calls Try.prog 51 #[S key, S nonce, S s, S [109, 111, 114, 101]] w fun e w' => e = .returned (.tuple #[S [112, 108, 97, 105, 110], .bool true]) ∧ Pu w w' := hO1
  have hO2' : ∀ w, Calls Try.prog 51 #[S key, S nonce, S s, S [108, 101, 115, 115]] w fun e w' => e = .returned (.tuple #[S [], .bool false]) ∧ Pu w w' := hO2
  have HF1 := Lib.hid hF1
  have HF2 := Lib.hid hF2
  have HS := Lib.hid hS'
  have HO1 := Lib.hid hO1'
  have HO2 := Lib.hid hO2'
  have k1 : (ByteArray.mk #[107, 101, 121]) = bs [107, 101, 121] := rfl
  have k2 : (ByteArray.mk #[110]) = bs [110] := rfl
  have k3 : (ByteArray.mk #[112, 108, 97, 105, 110]) = bs [112, 108, 97, 105, 110] := rfl
  have k4 : (ByteArray.mk #[109, 111, 114, 101]) = bs [109, 111, 114, 101] := rfl
  have k5 : (ByteArray.mk #[108, 101, 115, 115]) = bs [108, 101, 115, 115] := rfl
  clear hF1 hF2 hS hO1 hO2 hS' hO1' hO2' hs hsl hopen hno hf hkey hnonce
  go_enter Try.func47, Try.ntmps47
  go_wp2_with (first
    | (go_at_call 48; refine (HF1.out _).mono ?_; rintro e w1 ⟨rfl, hp1⟩; clear HF1)
    | (go_at_call 48; refine (HF2.out _).mono ?_; rintro e w2 ⟨rfl, hp2⟩)
    | (go_at_call 49; refine (HS.out _).mono ?_; rintro e w3 ⟨rfl, hp3⟩)
    | (go_at_call 51; refine (HO1.out _).mono ?_; rintro e w4 ⟨rfl, hp4⟩; clear HO1)
    | (go_at_call 51; refine (HO2.out _).mono ?_; rintro e w5 ⟨rfl, hp5⟩))
  go_ret
  exact ⟨rfl, (((hp1.trans hp2).trans hp3).trans hp4).trans hp5⟩
set_option maxRecDepth 100000 in
set_option maxHeartbeats 6400000 in
theorem boxTells_walk (s0 : ByteArray) (_ : s0.size ≤ maxLen) (s1 : ByteArray) (_ : s1.size ≤ maxLen) (s2 : ByteArray) (_ : s2.size ≤ maxLen) (s3 : ByteArray) (_ : s3.size ≤ maxLen) (s4 : ByteArray) (_ : s4.size ≤ maxLen) (raw : Bool) (w : World) :
    Calls Try.prog 14 #[.string s0, .string s1, .string s2, .string s3, .string s4, .bool raw] w fun e w' => e = .returned (.bool true) ∧ Pu w w' := by
  obtain ⟨key, rfl⟩ : ∃ b, s0 = bs b := ⟨_, bs_eta s0⟩
  obtain ⟨nonce, rfl⟩ : ∃ b, s1 = bs b := ⟨_, bs_eta s1⟩
  obtain ⟨plain, rfl⟩ : ∃ b, s2 = bs b := ⟨_, bs_eta s2⟩
  obtain ⟨more, rfl⟩ : ∃ b, s3 = bs b := ⟨_, bs_eta s3⟩
  obtain ⟨b, rfl⟩ : ∃ b, s4 = bs b := ⟨_, bs_eta s4⟩
  by_cases g1 : 100 < key.length
  · have q1 : (100 : Int) < key.length := by omega
    go_enter Try.func14, Try.ntmps14
    go_wp2_with (go_at_call 47; refine (alive7 _).mono ?_; rintro e w1 ⟨rfl, hp1⟩)
    go_ret
    exact ⟨rfl, hp1⟩
  have q1 : decide ((100 : Int) < key.length) = false := by simp; omega
  by_cases g2 : 100 < nonce.length
  · have q2 : (100 : Int) < nonce.length := by omega
    go_enter Try.func14, Try.ntmps14
    go_wp2_with (go_at_call 47; refine (alive7 _).mono ?_; rintro e w1 ⟨rfl, hp1⟩)
    go_ret
    exact ⟨rfl, hp1⟩
  have q2 : decide ((100 : Int) < nonce.length) = false := by simp; omega
  by_cases g3 : 300 < plain.length
  · have q3 : (300 : Int) < plain.length := by omega
    go_enter Try.func14, Try.ntmps14
    go_wp2_with (go_at_call 47; refine (alive7 _).mono ?_; rintro e w1 ⟨rfl, hp1⟩)
    go_ret
    exact ⟨rfl, hp1⟩
  have q3 : decide ((300 : Int) < plain.length) = false := by simp; omega
  by_cases g4 : 100 < more.length
  · have q4 : (100 : Int) < more.length := by omega
    go_enter Try.func14, Try.ntmps14
    go_wp2_with (go_at_call 47; refine (alive7 _).mono ?_; rintro e w1 ⟨rfl, hp1⟩)
    go_ret
    exact ⟨rfl, hp1⟩
  have q4 : decide ((100 : Int) < more.length) = false := by simp; omega
  by_cases g5 : 400 < b.length
  · have q5 : (400 : Int) < b.length := by omega
    go_enter Try.func14, Try.ntmps14
    go_wp2_with (go_at_call 47; refine (alive7 _).mono ?_; rintro e w1 ⟨rfl, hp1⟩)
    go_ret
    exact ⟨rfl, hp1⟩
  have q5 : decide ((400 : Int) < b.length) = false := by simp; omega
  cases raw with
  | true =>
    obtain ⟨k, hk⟩ : ∃ k, k = key := ⟨_, rfl⟩
    obtain ⟨n, hn⟩ : ∃ k, k = nonce := ⟨_, rfl⟩
    subst hk hn
    cases hf : fineL k n with
    | true =>
    have hS := fun w => boxSeal k n plain more (by omega) (by omega) w
    have hB := fun w => refBox k n plain more (by omega) (by omega) w
    have hO1 := fun w => boxOpen k n b more (by omega) (by omega) w
    have hU := fun w => refUnbox k n b more (by omega) (by omega) w
    obtain ⟨p, q, hpq⟩ : ∃ p q, openR k n b more = (p, q) := ⟨_, _, rfl⟩
    rw [hpq] at hO1 hU
    rw [sealR_yes _ _ hf] at hS hB
    have hopen := open_seal k n plain more hf
    have hsl := sealL_length k n plain more
    obtain ⟨s, hs⟩ : ∃ s, s = sealL k n plain more := ⟨_, rfl⟩
    rw [← hs] at hS hB hopen hsl
    have hO2 := fun w => boxOpen k n s more (by omega) (by omega) w
    rw [hopen] at hO2
    have hS' : ∀ w, Calls Try.prog 49 #[S k, S n, S plain, S more] w fun e w' => e = .returned (.tuple #[S s, .bool true]) ∧ Pu w w' := hS
    have hB' : ∀ w, Calls Try.prog 50 #[S k, S n, S plain, S more] w fun e w' => e = .returned (.tuple #[S s, .bool true]) ∧ Pu w w' := hB
    have hO2' : ∀ w, Calls Try.prog 51 #[S k, S n, S s, S more] w fun e w' => e = .returned (.tuple #[S plain, .bool true]) ∧ Pu w w' := hO2
    have hO1' : ∀ w, Calls Try.prog 51 #[S k, S n, S b, S more] w fun e w' => e = .returned (.tuple #[S p, .bool q]) ∧ Pu w w' := hO1
    have hU' : ∀ w, Calls Try.prog 52 #[S k, S n, S b, S more] w fun e w' => e = .returned (.tuple #[S p, .bool q]) ∧ Pu w w' := hU
    have HS := Lib.hid hS'
    have HB := Lib.hid hB'
    have HO1 := Lib.hid hO1'
    have HU := Lib.hid hU'
    have HO2 := Lib.hid hO2'
    clear hS hB hO1 hU hO2 hS' hB' hO1' hU' hO2' hpq hf
    clear hs hopen
    go_enter Try.func14, Try.ntmps14
    go_wp2_with (first
      | (go_at_call 47; refine (alive7 _).mono ?_; rintro e w1 ⟨rfl, hp1⟩)
      | (go_at_call 49; refine (HS.out _).mono ?_; rintro e w2 ⟨rfl, hp2⟩)
      | (go_at_call 50; refine (HB.out _).mono ?_; rintro e w3 ⟨rfl, hp3⟩)
      | (go_at_call 51; refine (HO1.out _).mono ?_; rintro e w4 ⟨rfl, hp4⟩; clear HO1)
      | (go_at_call 52; refine (HU.out _).mono ?_; rintro e w5 ⟨rfl, hp5⟩)
      | (go_at_call 51; refine (HO2.out _).mono ?_; rintro e w6 ⟨rfl, hp6⟩))
    go_ret
    exact ⟨by simp, ((((hp1.trans hp2).trans hp3).trans hp4).trans hp5).trans hp6⟩
    | false =>
    have hS := fun w => boxSeal k n plain more (by omega) (by omega) w
    have hB := fun w => refBox k n plain more (by omega) (by omega) w
    have hO1 := fun w => boxOpen k n b more (by omega) (by omega) w
    have hU := fun w => refUnbox k n b more (by omega) (by omega) w
    obtain ⟨p, q, hpq⟩ : ∃ p q, openR k n b more = (p, q) := ⟨_, _, rfl⟩
    rw [hpq] at hO1 hU
    rw [sealR_no _ _ hf] at hS hB
    have hO2 := fun w => boxOpen k n [] more (by simp) (by omega) w
    rw [openR_no _ _ hf] at hO2
    have hS' : ∀ w, Calls Try.prog 49 #[S k, S n, S plain, S more] w fun e w' => e = .returned (.tuple #[S [], .bool false]) ∧ Pu w w' := hS
    have hB' : ∀ w, Calls Try.prog 50 #[S k, S n, S plain, S more] w fun e w' => e = .returned (.tuple #[S [], .bool false]) ∧ Pu w w' := hB
    have hO2' : ∀ w, Calls Try.prog 51 #[S k, S n, S [], S more] w fun e w' => e = .returned (.tuple #[S [], .bool false]) ∧ Pu w w' := hO2
    have hO1' : ∀ w, Calls Try.prog 51 #[S k, S n, S b, S more] w fun e w' => e = .returned (.tuple #[S p, .bool q]) ∧ Pu w w' := hO1
    have hU' : ∀ w, Calls Try.prog 52 #[S k, S n, S b, S more] w fun e w' => e = .returned (.tuple #[S p, .bool q]) ∧ Pu w w' := hU
    have HS := Lib.hid hS'
    have HB := Lib.hid hB'
    have HO1 := Lib.hid hO1'
    have HU := Lib.hid hU'
    have HO2 := Lib.hid hO2'
    clear hS hB hO1 hU hO2 hS' hB' hO1' hU' hO2' hpq hf
    go_enter Try.func14, Try.ntmps14
    go_wp2_with (first
      | (go_at_call 47; refine (alive7 _).mono ?_; rintro e w1 ⟨rfl, hp1⟩)
      | (go_at_call 49; refine (HS.out _).mono ?_; rintro e w2 ⟨rfl, hp2⟩)
      | (go_at_call 50; refine (HB.out _).mono ?_; rintro e w3 ⟨rfl, hp3⟩)
      | (go_at_call 51; refine (HO1.out _).mono ?_; rintro e w4 ⟨rfl, hp4⟩; clear HO1)
      | (go_at_call 52; refine (HU.out _).mono ?_; rintro e w5 ⟨rfl, hp5⟩)
      | (go_at_call 51; refine (HO2.out _).mono ?_; rintro e w6 ⟨rfl, hp6⟩))
    go_ret
    exact ⟨by simp, ((((hp1.trans hp2).trans hp3).trans hp4).trans hp5).trans hp6⟩
  | false =>
    have hF1 := fun w => lawFill key 32 (by decide) w
    have hF2 := fun w => lawFill nonce 12 (by decide) w
    rw [show ((32 : Nat) : Int) = 32 from rfl] at hF1
    rw [show ((12 : Nat) : Int) = 12 from rfl] at hF2
    have hf := fine_fill key nonce
    obtain ⟨k, hk⟩ : ∃ k, k = fillL key 32 := ⟨_, rfl⟩
    obtain ⟨n, hn⟩ : ∃ k, k = fillL nonce 12 := ⟨_, rfl⟩
    rw [← hk] at hF1 hf
    rw [← hn] at hF2 hf
    have HF1 := Lib.hid hF1
    have HF2 := Lib.hid hF2
    clear hF1 hF2 hk hn
    have hS := fun w => boxSeal k n plain more (by omega) (by omega) w
    have hB := fun w => refBox k n plain more (by omega) (by omega) w
    have hO1 := fun w => boxOpen k n b more (by omega) (by omega) w
    have hU := fun w => refUnbox k n b more (by omega) (by omega) w
    obtain ⟨p, q, hpq⟩ : ∃ p q, openR k n b more = (p, q) := ⟨_, _, rfl⟩
    rw [hpq] at hO1 hU
    rw [sealR_yes _ _ hf] at hS hB
    have hopen := open_seal k n plain more hf
    have hsl := sealL_length k n plain more
    obtain ⟨s, hs⟩ : ∃ s, s = sealL k n plain more := ⟨_, rfl⟩
    rw [← hs] at hS hB hopen hsl
    have hO2 := fun w => boxOpen k n s more (by omega) (by omega) w
    rw [hopen] at hO2
    have hS' : ∀ w, Calls Try.prog 49 #[S k, S n, S plain, S more] w fun e w' => e = .returned (.tuple #[S s, .bool true]) ∧ Pu w w' := hS
    have hB' : ∀ w, Calls Try.prog 50 #[S k, S n, S plain, S more] w fun e w' => e = .returned (.tuple #[S s, .bool true]) ∧ Pu w w' := hB
    have hO2' : ∀ w, Calls Try.prog 51 #[S k, S n, S s, S more] w fun e w' => e = .returned (.tuple #[S plain, .bool true]) ∧ Pu w w' := hO2
    have hO1' : ∀ w, Calls Try.prog 51 #[S k, S n, S b, S more] w fun e w' => e = .returned (.tuple #[S p, .bool q]) ∧ Pu w w' := hO1
    have hU' : ∀ w, Calls Try.prog 52 #[S k, S n, S b, S more] w fun e w' => e = .returned (.tuple #[S p, .bool q]) ∧ Pu w w' := hU
    have HS := Lib.hid hS'
    have HB := Lib.hid hB'
    have HO1 := Lib.hid hO1'
    have HU := Lib.hid hU'
    have HO2 := Lib.hid hO2'
    clear hS hB hO1 hU hO2 hS' hB' hO1' hU' hO2' hpq hf
    clear hs hopen
    go_enter Try.func14, Try.ntmps14
    go_wp2_with (first
      | (go_at_call 47; refine (alive7 _).mono ?_; rintro e w1 ⟨rfl, hp1⟩)
      | (go_at_call 48; refine (HF1.out _).mono ?_; rintro e w7 ⟨rfl, hp7⟩; clear HF1)
      | (go_at_call 48; refine (HF2.out _).mono ?_; rintro e w8 ⟨rfl, hp8⟩)
      | (go_at_call 49; refine (HS.out _).mono ?_; rintro e w2 ⟨rfl, hp2⟩)
      | (go_at_call 50; refine (HB.out _).mono ?_; rintro e w3 ⟨rfl, hp3⟩)
      | (go_at_call 51; refine (HO1.out _).mono ?_; rintro e w4 ⟨rfl, hp4⟩; clear HO1)
      | (go_at_call 52; refine (HU.out _).mono ?_; rintro e w5 ⟨rfl, hp5⟩)
      | (go_at_call 51; refine (HO2.out _).mono ?_; rintro e w6 ⟨rfl, hp6⟩))
    go_ret
    exact ⟨by simp, ((((((hp1.trans hp7).trans hp8).trans hp2).trans hp3).trans hp4).trans hp5).trans hp6⟩
end Go.Proofs.Ytdjbhbefghihcaa
