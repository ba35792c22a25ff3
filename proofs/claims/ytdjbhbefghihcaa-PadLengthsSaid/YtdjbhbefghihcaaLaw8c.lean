/- The walk of PadLengths. -/
import Derived.Test.YtdjbhbefghihcaaLaw8b
namespace Go.Proofs.Ytdjbhbefghihcaa
open Go.RowKit Go.Esc
theorem bits_xor8 (x y : UInt8) : Go.bits .xor .u8 (x.toNat : Int) (y.toNat : Int) = ((x ^^^ y).toNat : Int) := by
  have h1 := x.toNat_lt; have h2 := y.toNat_lt
  rw [u8_xor _ _ (by omega) (by omega) (by omega) (by omega)]
  simp

theorem beN_two (x y : UInt8) : beN [x, y] = x.toNat * 256 + y.toNat := by simp [beN]
theorem beN_len (n : Nat) (h : n ≤ 2046) : beN [UInt8.ofNat (n / 256), UInt8.ofNat n] = n := by
  rw [beN_two]; simp; omega
/-- What differs behind the text is none. -/
theorem unpad_other {a p t : List UInt8} (ha : a.length ≤ 2046) (hp : padL a = some p) (hf : p.take 2 = [UInt8.ofNat (a.length / 256), UInt8.ofNat a.length]) (hb : (p.take (2 + a.length)).drop 2 = a)
    (ht : t.take (2 + a.length) = p.take (2 + a.length)) (hl : 2 + a.length ≤ t.length) (hne : t ≠ p) : unpadL t = none := by
  have h2 : t.take 2 = p.take 2 := by
    have := congrArg (List.take 2) ht
    rwa [List.take_take, List.take_take, Nat.min_eq_left (by omega)] at this
  unfold unpadL
  rw [if_neg (by omega)]
  have hn : beN (t.take 2) = a.length := by rw [h2, hf, beN_len _ ha]
  simp only [hn]
  rw [if_neg (by omega), ht, hb, hp]
  rw [if_neg]
  intro h; exact hne (by simpa using h.symm)

set_option maxHeartbeats 1600000 in
set_option maxRecDepth 100000 in
theorem padLengths_walk (s : ByteArray) (_ : s.size ≤ maxLen) (s' : ByteArray) (_ : s'.size ≤ maxLen) (at' : Int) (_ : (Lit.int .i64 at').wf = true) (by' : Int) (hby : (Lit.int .u8 by').wf = true) (w : World) :
    Calls Try.prog 3 #[.string s, .string s', .int .i64 at', .int .u8 by'] w fun e w' => e = .returned (.bool true) ∧ Pu w w' := by
  obtain ⟨a, rfl⟩ : ∃ a, s = bs a := ⟨_, bs_eta s⟩
  obtain ⟨b, rfl⟩ : ∃ b, s' = bs b := ⟨_, bs_eta s'⟩
  obtain ⟨y, rfl⟩ : ∃ y : UInt8, by' = (y.toNat : Int) := by
    have : 0 ≤ by' ∧ by' ≤ 255 := by simpa [Lit.wf, IntKind.min, IntKind.max, IntKind.signed, IntKind.bits] using hby
    exact ⟨UInt8.ofNat by'.toNat, by simp; omega⟩
  by_cases hg : 2046 < a.length ∨ 2046 < b.length ∨ y.toNat = 0
  · rcases (by omega : 2046 < a.length ∨ (a.length ≤ 2046 ∧ 2046 < b.length) ∨ (a.length ≤ 2046 ∧ b.length ≤ 2046 ∧ y.toNat = 0)) with h1 | ⟨h1, h2⟩ | ⟨h1, h2, h3⟩
    · have k1 : (2046 : Int) < a.length := by omega
      clear hg
      go_enter Try.func3, Try.ntmps3
      go_wp2_with (go_at_call 36; refine (alive8 _).mono ?_; rintro e w1 ⟨rfl, hb1⟩)
      go_ret
      exact ⟨rfl, hb1⟩
    · have k1 : (a.length : Int) ≤ 2046 := by omega
      have k2 : (2046 : Int) < b.length := by omega
      clear hg
      go_enter Try.func3, Try.ntmps3
      go_wp2_with (go_at_call 36; refine (alive8 _).mono ?_; rintro e w1 ⟨rfl, hb1⟩)
      go_ret
      exact ⟨rfl, hb1⟩
    · have k1 : (a.length : Int) ≤ 2046 := by omega
      have k2 : (b.length : Int) ≤ 2046 := by omega
      have k3 : ((y.toNat : Int) == 0) = true := by simp; omega
      clear hg h3
      go_enter Try.func3, Try.ntmps3
      go_wp2_with (go_at_call 36; refine (alive8 _).mono ?_; rintro e w1 ⟨rfl, hb1⟩)
      go_ret
      exact ⟨rfl, hb1⟩
  · have k1 : (a.length : Int) ≤ 2046 := by omega
    have k2 : (b.length : Int) ≤ 2046 := by omega
    have k3 : ((y.toNat : Int) == 0) = false := by simp; omega
    obtain ⟨sa, hsa, ha1, ha2, hpa⟩ := padL_form a (by omega)
    obtain ⟨sb, hsb, hb1', hb2', hpb⟩ := padL_form b (by omega)
    obtain ⟨p, hp⟩ : ∃ p, p = UInt8.ofNat (a.length / 256) :: UInt8.ofNat a.length :: (a ++ List.replicate (sa - 2 - a.length) 0) := ⟨_, rfl⟩
    obtain ⟨q, hq⟩ : ∃ q, q = UInt8.ofNat (b.length / 256) :: UInt8.ofNat b.length :: (b ++ List.replicate (sb - 2 - b.length) 0) := ⟨_, rfl⟩
    rw [← hp] at hpa
    rw [← hq] at hpb
    have hpl : p.length = sa := by rw [hp]; simp; omega
    have hql : q.length = sb := by rw [hq]; simp; omega
    obtain ⟨f1, f2, f3⟩ := pad_facts (z := []) hp
    have hPA := fun w => pad a w (by omega)
    have hPB := fun w => pad b w (by omega)
    have hSA := fun w => size (a.length : Int) w
    have hSB := fun w => size (b.length : Int) w
    rw [hpa] at hPA
    rw [hpb] at hPB
    rw [hsa] at hSA
    rw [hsb] at hSB
    have hu0 : unpadL (p ++ [0]) = none := unpad_other (by omega) hpa f1 f2 (by rw [List.take_append_of_le_length (by omega)]) (by simp; omega) (by simp)
    have hU0 := fun w => unpad (p ++ [0]) w (by simp; omega)
    rw [hu0] at hU0
    have HPA := Lib.hid hPA
    have HPB := Lib.hid hPB
    have HSA := Lib.hid hSA
    have HSB := Lib.hid hSB
    have HU0 := Lib.hid hU0
    have HL := Lib.hid hpl
    have HLQ := Lib.hid hql
    have HPP := Lib.hid hpa
    have c1 : ((p.length : Int) != sa) = false := by simp [hpl]
    have c2 : ((q.length : Int) != sb) = false := by simp [hql]
    clear hPA hPB hSA hSB hU0 hu0 hsa hsb hp hq hpa hpb
    have hk0 : ∀ l : List UInt8, bs l ++ (⟨#[0]⟩ : ByteArray) = bs (l ++ [0]) := fun l => bs_append l [0]
    by_cases hfree : 0 < (sa : Int) - 2 - a.length
    · have t1 : -((sa : Int) - 2 - a.length) < at'.tmod ((sa : Int) - 2 - a.length) := by have := Int.lt_tmod_of_pos at' hfree; omega
      have t2 : at'.tmod ((sa : Int) - 2 - a.length) < (sa : Int) - 2 - a.length := Int.tmod_lt_of_pos at' hfree
      obtain ⟨r, hr⟩ : ∃ r : Int, r = at'.tmod ((sa : Int) - 2 - a.length) % ((sa : Int) - 2 - a.length) := ⟨_, rfl⟩
      have r1 : 0 ≤ r := by rw [hr]; exact Int.emod_nonneg _ (by omega)
      have r2 : r < (sa : Int) - 2 - a.length := by rw [hr]; exact Int.emod_lt_of_pos _ hfree
      obtain ⟨j, rfl⟩ := Int.eq_ofNat_of_zero_le r1
      have hjl : 2 + a.length + j < p.length := by omega
      obtain ⟨t, ht⟩ : ∃ t, t = p.set (2 + a.length + j) (p[2 + a.length + j] ^^^ y) := ⟨_, rfl⟩
      have hut : unpadL t = none := by
        refine unpad_other (by omega) HPP.out f1 f2 ?_ (by rw [ht]; simp; omega) ?_
        · rw [ht, List.take_set_of_le (by omega)]
        · intro e
          have : t[2 + a.length + j]'(by rw [ht]; simp; omega) = p[2 + a.length + j] := by simp only [e]
          simp only [ht, List.getElem_set_self] at this
          have h2 := congrArg (fun z => p[2 + a.length + j] ^^^ z) this
          simp [← UInt8.xor_assoc] at h2
          rw [h2] at k3; simp at k3
      have hUT := fun w => unpad t w (by rw [ht]; simp; omega)
      rw [hut] at hUT
      have HUT := Lib.hid hUT
      have q1 : 0 ≤ at'.tmod ((sa : Int) - 2 - a.length) % ((sa : Int) - 2 - a.length) := by rw [← hr]; omega
      have q2 : at'.tmod ((sa : Int) - 2 - a.length) % ((sa : Int) - 2 - a.length) < (sa : Int) - 2 - a.length := by rw [← hr]; omega
      have hoff : (2 + (a.length : Int) + at'.tmod ((sa : Int) - 2 - a.length) % ((sa : Int) - 2 - a.length)).toNat = 2 + a.length + j := by rw [← hr]; omega
      have HR := Lib.hid hr
      have HT := Lib.hid ht
      have hset : (cells p).set (2 + a.length + j) (.int .u8 (Go.bits .xor .u8 0 (y.toNat : Int))) = cells t := by
        have e0 : Go.bits .xor .u8 (0 : Int) (y.toNat : Int) = ((0 ^^^ y : UInt8).toNat : Int) := bits_xor8 0 y
        rw [e0, cells_set, ht, f3 _ hjl (by omega)]
      have htl : t.length = sa := by rw [ht]; simp [hpl]
      have HTL := Lib.hid htl
      have HSET := Lib.hid hset
      clear hset htl
      clear hut hUT hr ht
      go_enter Try.func3, Try.ntmps3
      go_wp2_with (first | (refine wpList_bytes _ rfl (.tmp 88) 9 27 5 rfl p (by first | rfl | simp [Act.eval]) Try.underlying9 Try.underlying27 Try.underlying5 ?_; intro wb cap hrow hwb hcap; have hc := hrow.byte (2 + a.length + j) hjl; have hf := hrow.frozen (2 + a.length + j) (by rw [cells_length]; exact hjl); have hrw := hrow.set (2 + a.length + j) (.int .u8 (Go.bits .xor .u8 0 (y.toNat : Int))); rw [HSET.out] at hrw; have hcv := Row.conv (P := Try.prog) (cap := cap) (n := sa) 27 9 hrw HTL.out.symm Try.underlying27 Try.underlying5 Try.underlying9) | (go_at_call 36; refine (alive8 _).mono ?_; rintro e w1 ⟨rfl, hw1⟩) | (go_at_call_of 37 (Value.string (bs a)); refine (HPA.out _).mono ?_; rintro e w2 ⟨rfl, hw2⟩) | (go_at_call_of 37 (Value.string (bs b)); refine (HPB.out _).mono ?_; rintro e w3 ⟨rfl, hw3⟩) | (go_at_call_of 38 (Value.int IntKind.i64 (a.length : Int)); refine (HSA.out _).mono ?_; rintro e w4 ⟨rfl, hw4⟩) | (go_at_call_of 38 (Value.int IntKind.i64 (b.length : Int)); refine (HSB.out _).mono ?_; rintro e w5 ⟨rfl, hw5⟩) | ((first | go_at_call_of 39 (S t) | go_at_call_of 39 (Value.string (bs t))); refine (HUT.out _).mono ?_; rintro e w6 ⟨rfl, hw6⟩) | (go_at_call 39; refine (HU0.out _).mono ?_; rintro e w7 ⟨rfl, hw7⟩))
      go_ret
      refine ⟨?_, ((((((hw1.trans hw2).trans hw3).trans hw4).trans hw5).trans (hwb.setCell (Nat.le_refl _) _)).trans hw6).trans hw7⟩
      first | rfl | exact ret_bool (by rw [HL.out, HLQ.out]; simp)
    · go_enter Try.func3, Try.ntmps3
      go_wp2_with (first | (refine wpList_bytes _ rfl (.tmp 88) 9 27 5 rfl p (by first | rfl | simp [Act.eval]) Try.underlying9 Try.underlying27 Try.underlying5 ?_; intro wb cap hrow hwb hcap) | (go_at_call 36; refine (alive8 _).mono ?_; rintro e w1 ⟨rfl, hw1⟩) | (go_at_call_of 37 (Value.string (bs a)); refine (HPA.out _).mono ?_; rintro e w2 ⟨rfl, hw2⟩) | (go_at_call_of 37 (Value.string (bs b)); refine (HPB.out _).mono ?_; rintro e w3 ⟨rfl, hw3⟩) | (go_at_call_of 38 (Value.int IntKind.i64 (a.length : Int)); refine (HSA.out _).mono ?_; rintro e w4 ⟨rfl, hw4⟩) | (go_at_call_of 38 (Value.int IntKind.i64 (b.length : Int)); refine (HSB.out _).mono ?_; rintro e w5 ⟨rfl, hw5⟩) | (go_at_call 39; refine (HU0.out _).mono ?_; rintro e w6 ⟨rfl, hw6⟩))
      go_ret
      refine ⟨?_, (((((hw1.trans hw2).trans hw3).trans hw4).trans hw5).trans hwb).trans hw6⟩
      first | rfl | exact ret_bool (by rw [HL.out, HLQ.out]; simp)
end Go.Proofs.Ytdjbhbefghihcaa
