/- Limbs of 26 bits: package onetime's numbers. -/
import Derived.Test.YtdjbhbefghihcaaLittle
import Derived.Test.YtdjbhbefghihcaaBlock
set_option linter.unusedSimpArgs false
set_option linter.unusedVariables false
namespace Go.Esc
open Go Go.RowKit
/-- Numbers as cells of 64 bits. -/
def us (l : List Nat) : List Value := l.map fun x : Nat => .int .u64 (x : Int)
theorem us_length (l : List Nat) : (us l).length = l.length := by simp [us]
theorem us_set (l : List Nat) (i x : Nat) : (us l).set i (.int .u64 (x : Int)) = us (l.set i x) := by simp [us, List.map_set]
theorem us_get (l : List Nat) (i : Nat) (h : i < l.length) : (us l)[i]? = some (.int .u64 (l.getD i 0 : Nat)) := by
  simp [us, List.getElem?_eq_getElem h]
theorem us_one (l : List Nat) : (us l).all (·.oneCell') = true := by simp [us, Value.oneCell']
theorem Row.limb {w : World} {g : Nat} {e : TypeId} {l : List Nat} (h : Row w g e (us l)) (j : Nat) (hj : j < l.length) : w.cell? ⟨g, j, none⟩ = some (.int .u64 (l.getD j 0 : Nat)) := by
  rw [h.cell' j (by rw [us_length]; exact hj), us_get l j hj]
theorem and26 (v : Nat) (h : v < 18446744073709551616) : Go.bits .and .u64 (v : Int) 67108863 = ((v % 67108864 : Nat) : Int) := by
  rw [show (67108863 : Int) = ((67108863 : Nat) : Int) from rfl, u64_and _ _ (by omega) (by omega) (by omega) (by omega)]
  congr 1
  rw [Int.toNat_natCast, Int.toNat_natCast, show (67108863 : Nat) = 2 ^ 26 - 1 from rfl, Nat.and_two_pow_sub_one_eq_mod]
theorem cr_succ (l : List Nat) (c0 i : Nat) : cr l c0 (i+1) = ((cr l c0 i).1.set i (((cr l c0 i).1.getD i 0 + (cr l c0 i).2) % 67108864), ((cr l c0 i).1.getD i 0 + (cr l c0 i).2) / 67108864) := rfl
end Go.Esc
namespace Go.Proofs.Ytdjbhbefghihcaa
open Go.RowKit Go.Esc
set_option maxRecDepth 100000 in
set_option maxHeartbeats 1600000 in
theorem carryF (l : List Nat) (hl : Le5 4611686018427387903 l) (xs R : List Value) (hxs : xs = us l) (hR : R = us (carryN l)) (w : World) :
    Calls Try.prog 160 #[.agg xs.toArray] w fun e w' => e = .returned (.agg R.toArray) ∧ Pu w w' := by
  have hi5 : (Try.prog.info? 159).map (·.size) = some 5 := by kernel_rfl
  have hb := passes_le l hl
  have hlen := passes_length l
  have hxl : xs.length = 5 := by rw [hxs, us_length]; exact hl.1
  have hl5 := hl.1
  have HX := Lib.hid hxs
  have HR := Lib.hid hR
  have HB := Lib.hid hb
  have HLEN := Lib.hid hlen
  clear hxs hR hb hlen hl
  go_enter Try.func160, Try.ntmps160
  go_wp2_with (refine wpList_box rfl 159 (.tmp 0) rfl xs (by rfl) ?_; intro w0 hrs hp0 hz0)
  rw [HX.out] at hrs
  go_loopw [5] (fun i wr => ∃ n : Nat, n ≤ 3 ∧ i = .int .i64 (n : Int) ∧ Row wr w.heap.size 159 (us (passes l n)) ∧ Row wr (w.heap.size + 1) 159 (us [0, 0, 0, 0, 0]) ∧ Below w.heap.size w wr) (fun i _ => 3 - (intOf i).toNat)
  case atStart => exact ⟨0, by omega, rfl, hrs.alloc _, Row.newAt _ _ _ _ hz0 rfl, hp0.alloc _⟩
  case round =>
    clear hrs hp0
    obtain ⟨n, hn, rfl, hx, hres, hbel⟩ := hrel
    by_cases hlt : n < 3
    · have hlm := HLEN.out n
      have hlb := HB.out n
      obtain ⟨m, hm⟩ : ∃ m, m = passes l n := ⟨_, rfl⟩
      rw [← hm] at hx hlm hlb
      have hpm : pass m = passes l (n+1) := by rw [hm]; rfl
      have HPM := Lib.hid hpm
      have hm5 : m.length = 5 := by omega
      have hcr := fun i => cr_le m 0 4611686018427387903 68719477761 (by decide) (by decide) hlb i
      have HCR := Lib.hid hcr
      clear hm hpm hcr hlb hlm
      go_wp2_with fail
      go_loopw [3, 7] (fun c i wq => ∃ k : Nat, k ≤ 5 ∧ i = .int .i64 (k : Int) ∧ c = .int .u64 ((cr m 0 k).2 : Nat) ∧ Row wq w.heap.size 159 (us (cr m 0 k).1) ∧ Row wq (w.heap.size + 1) 159 (us [0, 0, 0, 0, 0]) ∧ Below w.heap.size w wq) (fun _ i _ => 5 - (intOf i).toNat)
      case atStart => exact ⟨0, by omega, rfl, rfl, hx, hres, hbel⟩
      case round =>
        clear hx hres hbel
        obtain ⟨k, hk, rfl, rfl, hx, hres, hbel⟩ := hrel
        obtain ⟨hc1, hc2, hc3⟩ := HCR.out k hk
        have hcl := cr_length m 0 k
        by_cases hkt : k < 5
        · have hsu := cr_succ m 0 k
          have hck := hc2 k (by omega)
          obtain ⟨y, hy⟩ : ∃ y, y = (cr m 0 k).1 := ⟨_, rfl⟩
          obtain ⟨c, hc⟩ : ∃ y, y = (cr m 0 k).2 := ⟨_, rfl⟩
          obtain ⟨a, ha⟩ : ∃ a, a = (cr m 0 k).1.getD k 0 := ⟨_, rfl⟩
          obtain ⟨v, hv⟩ : ∃ v, v = a + c := ⟨_, rfl⟩
          obtain ⟨q, hq⟩ : ∃ q, q = v / 67108864 := ⟨_, rfl⟩
          obtain ⟨r, hr⟩ : ∃ r, r = v % 67108864 := ⟨_, rfl⟩
          rw [← ha] at hck hsu
          rw [← hy] at hsu hcl hx ha
          rw [← hc] at hsu hc3
          rw [← hc]
          rw [← hv, ← hq, ← hr] at hsu
          have hvl : v < 18446744073709551616 := by omega
          have hcell := Row.limb hx k (by omega)
          rw [← ha] at hcell
          have hfz := hx.frozen k (by rw [us_length]; omega)
          have e1 : (a : Int) + c = v := by omega
          have e2 : IntKind.u64.wrap (v : Int) = v := by rw [IntKind.wrap_u64]; omega
          have e3 : (v : Int) / 67108864 = q := by omega
          have e4 : Go.bits .and .u64 (v : Int) 67108863 = (r : Int) := by rw [and26 v hvl, hr]
          have hk0 : (0 : Int) ≤ k := by omega
          have hk5 : (k : Int) < 5 := by omega
          have HSU := Lib.hid hsu
          have HY := Lib.hid hy
          clear hsu hy hc ha hv hq hr hc1 hc2
          go_wp2_with fail
          go_roundw
          case rel =>
            refine ⟨k + 1, by omega, by go_num, by rw [HSU.out], ?_, ?_, ?_⟩
            · rw [HSU.out]
              have h1 := (hx.set k (.int .u64 (v : Int))).set k (.int .u64 (r : Int))
              rw [List.set_set, us_set] at h1
              exact h1
            · exact (hres.setOther _ _ (by simp)).setOther _ _ (by simp)
            · exact (hbel.setCell (by simp) _).setCell (by simp) _
          case measure => simp [intOf]; omega
        · obtain rfl : k = 5 := by omega
          have hck := hc1 0 (by omega)
          obtain ⟨y, hy⟩ : ∃ y, y = (cr m 0 5).1 := ⟨_, rfl⟩
          obtain ⟨c, hc⟩ : ∃ y, y = (cr m 0 5).2 := ⟨_, rfl⟩
          have hpa : pass m = y.set 0 (y.getD 0 0 + c * 5) := by rw [hy, hc]; rfl
          obtain ⟨a, ha⟩ : ∃ a, a = y.getD 0 0 := ⟨_, rfl⟩
          rw [← hy] at hck hcl hx
          rw [← hc] at hc3
          rw [← hc]
          rw [← ha] at hck hpa
          obtain ⟨v, hv⟩ : ∃ v, v = a + c * 5 := ⟨_, rfl⟩
          obtain ⟨d, hd⟩ : ∃ d, d = c * 5 := ⟨_, rfl⟩
          rw [← hv] at hpa
          have hvl : v < 18446744073709551616 := by omega
          have hdl : d < 18446744073709551616 := by omega
          have hcell := Row.limb hx 0 (by omega)
          rw [← ha] at hcell
          have hfz := hx.frozen 0 (by rw [us_length]; omega)
          have e0 : (c : Int) * 5 = d := by omega
          have e5 : IntKind.u64.wrap (d : Int) = d := by rw [IntKind.wrap_u64]; omega
          have e1 : (a : Int) + d = v := by omega
          have e2 : IntKind.u64.wrap (v : Int) = v := by rw [IntKind.wrap_u64]; omega
          have HPA := Lib.hid hpa
          clear hpa hy hc ha hv hd hc1 hc2
          go_wp2_with fail
          go_roundw
          case rel =>
            refine ⟨n + 1, by omega, by go_num, ?_, ?_, ?_⟩
            · rw [← HPM.out, HPA.out]
              have h1 := hx.set 0 (.int .u64 (v : Int))
              rw [us_set] at h1
              exact h1
            · exact hres.setOther _ _ (by simp)
            · exact hbel.setCell (by simp) _
          case measure => simp [intOf]; omega
    · obtain rfl : n = 3 := by omega
      have hlm := HLEN.out 3
      obtain ⟨z, hz⟩ : ∃ z, z = us (passes l 3) := ⟨_, rfl⟩
      have hz5 : z.length = 5 := by rw [hz, us_length]; omega
      have hz1 : z.all (·.oneCell') = true := by rw [hz]; exact us_one _
      have htk : ((z.drop 0).take 5) = z := by rw [List.drop_zero, List.take_of_length_le (by omega)]
      rw [← hz] at hx
      have hRz : R = z := by rw [HR.out, hz]; rfl
      have HRZ := Lib.hid hRz
      clear hz hRz hlm
      go_wp2_with (first
        | (refine wpList_load_part rfl 159 (.tmp 1) rfl w.heap.size 0 5 (by rfl) hx Try.underlying159 rfl hi5 (by omega) ?_; rw [htk])
        | (refine wpList_store_part rfl 159 (.tmp 2) (.tmp 33) rfl (w.heap.size + 1) 0 z (by rfl) (by rfl) hres (by rw [hz5]; exact hi5) (by rw [hz5]; decide) hz1 ?_; intro w1 hr1 hch))
      rw [splice_all (by rw [hz5]; rfl)] at hr1
      have hrl := hr1.load (P := Try.prog) 159 0 5 Try.underlying159 rfl hi5 (by omega)
      rw [htk] at hrl
      (try simp only [Exit.inBlock, Exit.then])
      refine bodyPost_ret (results_cell_eq rfl _ _ rfl hrl) rfl ?_
      exact ⟨by rw [HRZ.out], hch.below hbel (by omega)⟩
end Go.Proofs.Ytdjbhbefghihcaa
