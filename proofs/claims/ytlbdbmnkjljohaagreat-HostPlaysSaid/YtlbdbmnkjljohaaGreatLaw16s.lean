/- Chapter 16: HostPlays: a host that is none; what is not asked; users that may not be. -/
import Derived.Test.YtlbdbmnkjljohaaGreatLaw16r
import Derived.Test.YtlbdbmnkjljohaaGreatT17
import Derived.Test.YtlbdbmnkjljohaaGreatFill
set_option linter.unusedSimpArgs false
set_option linter.unusedVariables false
namespace Go.Proofs.YtlbdbmnkjljohaaGreat
open Go.RowKit Go.Esc
set_option maxRecDepth 100000 in
theorem gotNil (w : World) : Calls Tryz.prog 30 #[.pointer none, S [], .int .i64 1] w fun e w' => e = .returned (.tuple #[S [], .int .i64 7]) ∧ w' = w := by
  go_enter Tryz.func30, Tryz.ntmps30
  go_wp2_with fail
  go_ret2
  exact ⟨rfl, rfl⟩
set_option maxRecDepth 100000 in
theorem doneNil (w : World) : Calls Tryz.prog 31 #[.pointer none] w fun e w' => e = .returned (.bool false) ∧ w' = w := by
  go_enter Tryz.func31, Tryz.ntmps31
  go_wp2_with fail
  go_ret
  exact ⟨rfl, rfl⟩
set_option maxRecDepth 100000 in
theorem userNil (w : World) : Calls Tryz.prog 32 #[.pointer none] w fun e w' => e = .returned (S []) ∧ w' = w := by
  go_enter Tryz.func32, Tryz.ntmps32
  go_wp2_with fail
  go_ret
  exact ⟨rfl, rfl⟩
set_option maxRecDepth 100000 in
theorem keysNil (w : World) : Calls Tryz.prog 33 #[.pointer none] w fun e w' => e = .returned (.agg #[S [], S []]) ∧ Pu w w' := by
  have hi2 : (Tryz.prog.info? 44).map (·.size) = some 2 := by kernel_rfl
  have hp0 := (Pu.refl w).alloc (.cells #[.string ⟨#[]⟩, .string ⟨#[]⟩] 44)
  have hr0 : Row (w.alloc (.cells #[.string ⟨#[]⟩, .string ⟨#[]⟩] 44)) w.heap.size 44 [S [], S []] := Row.newAt _ _ _ _ rfl rfl
  go_enter Tryz.func33, Tryz.ntmps33
  go_wp2_with (refine wpList_store_part rfl 44 (.tmp 2) (.tmp 5) rfl w.heap.size 0 [S [], S []] (by rfl) (by rfl) hr0 hi2 (by simp) (by simp [Value.oneCell']) ?_; intro w4 hr4 hch4)
  rw [splice_all (by rfl)] at hr4
  have hrl := hr4.load (P := Tryz.prog) 44 0 2 Tryz.underlying44 rfl hi2 (by simp)
  (try simp only [Exit.inBlock, Exit.then])
  refine bodyPost_ret (results_cell_eq rfl _ _ rfl hrl) rfl ?_
  exact ⟨rfl, hch4.below hp0 (Nat.le_refl _)⟩
set_option maxRecDepth 100000 in
theorem newHostNo (b : Bs) (w : World) : Calls Tryz.prog 29 #[.pointer none, S b] w fun e w' => e = .returned (.pointer none) ∧ w' = w := by
  go_enter Tryz.func29, Tryz.ntmps29
  go_wp2_with fail
  go_ret
  exact ⟨rfl, rfl⟩
set_option maxRecDepth 100000 in
theorem newHostShort (ub : Nat) (b : Bs) (hb : b.length = 5) (w : World) : Calls Tryz.prog 29 #[.pointer (some ⟨ub, 0, none⟩), S b] w fun e w' => e = .returned (.pointer none) ∧ w' = w := by
  have k2 : ((b.length : Int) != 16) = true := by simp; omega
  have k3 : (b.length : Int) = 5 := by omega
  go_enter Tryz.func29, Tryz.ntmps29
  go_wp2_with fail
  go_ret
  exact ⟨rfl, rfl⟩
set_option maxRecDepth 100000 in
set_option maxHeartbeats 3200000 in
theorem hosts_few {w : World} (a0 : Option Addr) (len cap : Nat) (na : Bs) (a1 : Option Addr) (len1 cap1 : Nat) (hno : ¬ (len ≤ 10 ∧ len1 ≤ 8)) :
    Calls Tryz.prog 9 #[.slice a0 len cap, S na, .slice a1 len1 cap1] w fun e w' => e = .returned (.bool true) ∧ Pu w w' := by
  by_cases g0 : 10 < len
  · have q0 : (10 : Int) < len := by omega
    clear hno
    go_enter Tryz.func9, Tryz.ntmps9
    go_wp2_with (go_at_call 12; refine (alive16 _).mono ?_; rintro e w1 ⟨rfl, hp1⟩)
    go_ret
    exact ⟨rfl, hp1⟩
  have q0 : ¬ (10 : Int) < len := by omega
  by_cases g1 : 8 < len1
  · have q1 : (8 : Int) < len1 := by omega
    clear hno
    go_enter Tryz.func9, Tryz.ntmps9
    go_wp2_with (go_at_call 12; refine (alive16 _).mono ?_; rintro e w1 ⟨rfl, hp1⟩)
    go_ret
    exact ⟨rfl, hp1⟩
  exact absurd ⟨by omega, by omega⟩ hno
set_option maxRecDepth 100000 in
set_option maxHeartbeats 3200000 in
theorem hosts_bad {w : World} (a0 : Option Addr) (len cap : Nat) (na : Bs) (a1 : Option Addr) (len1 cap1 : Nat) (L zs : List (Bs × Bs)) (hL : Prs w a0 len L) (hzs : zs = tidyU L) (hgood : ¬ goodUs zs) (h1 : len ≤ 10) (h2 : len1 ≤ 8) :
    Calls Tryz.prog 9 #[.slice a0 len cap, S na, .slice a1 len1 cap1] w fun e w' => e = .returned (.bool true) ∧ Pu w w' := by
  have q0 : ¬ (10 : Int) < len := by omega
  have q1 : ¬ (8 : Int) < len1 := by omega
  have hll := hL.length
  have hsmall : ∀ x ∈ tidyU L, x.1.length ≤ 9223372036854775807 := by
    intro x hx
    obtain ⟨y, hy, rfl⟩ := List.mem_map.1 hx
    have := (hL.small y hy).1
    unfold maxLen at this
    exact this
  have hzl := tidyU_length L
  rw [← hzs] at hsmall hzl
  have hzn : len = zs.length := by omega
  have HL := Lib.hid hL
  have HZS := Lib.hid hzs
  have HSM := Lib.hid hsmall
  have HZN := Lib.hid hzn
  have hg2 := Lib.hid hgood
  have hne : len ≠ 0 := by
    intro h0
    apply hgood
    have : zs = [] := List.eq_nil_of_length_eq_zero (by omega)
    rw [this]
    exact ⟨fun x hx => (by cases hx), fun i j hi => (by simp at hi)⟩
  have HNE := Lib.hid hne
  clear hL hzs hsmall hll hzl hgood hzn hne
  go_enter Tryz.func9, Tryz.ntmps9
  go_wp2_with (first
    | (go_at_call 12; refine (alive16 _).mono ?_; rintro e w1 ⟨rfl, hp1⟩)
    | (go_at_call 26; refine (tidy (HL.out.keep hp1) (by omega)).mono ?_; rw [← HZS.out]; rintro e w2 ⟨v, rfl, ho, hp2⟩; obtain ⟨g, cv, rfl, hrz⟩ := ownN_form ho (by have := HNE.out; omega))
    | (go_at_call 27; refine (refUsers zs HZN.out (by omega) (fun _ => ⟨g, rfl, hrz⟩) HSM.out).mono ?_; rintro e w3 ⟨bb, rfl, hbb, hp3⟩; obtain rfl : bb = false := (by cases bb with | false => rfl | true => exact absurd (hbb.1 rfl).1 hg2.out)))
  go_ret
  exact ⟨rfl, Pu.trans hp1 (Pu.trans hp2 hp3)⟩
end Go.Proofs.YtlbdbmnkjljohaaGreat
