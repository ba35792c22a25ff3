/- Chapter 13: RecordOrder. -/
import Derived.Test.YticdbilkhkfopaaGreatOrdL
import Derived.Test.YticdbilkhkfopaaGreatSameT
import Derived.Test.YticdbilkhkfopaaGreatIts
import Derived.Test.YticdbilkhkfopaaGreatT18
set_option linter.unusedSimpArgs false
set_option linter.unusedVariables false
namespace Go.Esc
open Go Go.RowKit
theorem index_of2 (a : Int) (L : Nat) (h0 : 0 < L) (h : L ≤ 100000) : ∃ i : Nat, ∃ r : Int, a.tmod L = r ∧ -(L : Int) < r ∧ r < L ∧ IntKind.i64.wrap (r + L) = r + L ∧ (r + L).tmod L = i ∧ i < L := by
  have hr1 : -(L : Int) < a.tmod L := Int.lt_tmod_of_pos a (by omega)
  have hr2 : a.tmod L < L := Int.tmod_lt_of_pos a (by omega)
  have h5 : 0 ≤ (a.tmod L + L) := by omega
  have h6 : (a.tmod L + (L : Int)).tmod L = (a.tmod L + L) % L := Int.tmod_eq_emod_of_nonneg h5
  have h7 := Int.emod_nonneg (a.tmod L + L) (show (L : Int) ≠ 0 by omega)
  have h8 := Int.emod_lt_of_pos (a.tmod L + L) (show (0 : Int) < L by omega)
  refine ⟨((a.tmod L + L) % L).toNat, _, rfl, hr1, hr2, by rw [IntKind.wrap_i64]; omega, ?_, by omega⟩
  rw [h6]; omega
def ordL (key : Bs) (n : Nat) (s : Nat → Nat) : List Bs := (List.range n).map fun i => recL key (s i) (txO (s i))
def txsL (n : Nat) : List Bs := (List.range n).map txO
theorem ordL_length (key : Bs) (n : Nat) (s : Nat → Nat) : (ordL key n s).length = n := by simp [ordL]
theorem txsL_length (n : Nat) : (txsL n).length = n := by simp [txsL]
theorem ordL_succ (key : Bs) (n : Nat) : ordL key (n+1) (fun i => i) = ordL key n (fun i => i) ++ [recL key n (txO n)] := by simp [ordL, List.range_succ]
theorem txsL_succ (n : Nat) : txsL (n+1) = txsL n ++ [txO n] := by simp [txsL, List.range_succ]
theorem ordL_at (key : Bs) (n : Nat) (s : Nat → Nat) (k : Nat) (h : k < n) : ((ordL key n s).map S)[k]? = some (S (recL key (s k) (txO (s k)))) := by
  simp [ordL, List.getElem?_range h]
theorem txsL_add (N N' : Nat) (h : N ≤ N') : txsL N ++ (List.range (N' - N)).map (fun j => txO (N + j)) = txsL N' := by
  obtain ⟨d, rfl⟩ : ∃ d, N' = N + d := ⟨N' - N, by omega⟩
  rw [Nat.add_sub_cancel_left]
  simp [txsL, List.range_add, List.map_append, Function.comp_def]
/-- The list behind so many of the two stores of a swap. -/
def swS (L : List Bs) (a b : Nat) (ta tb : Bs) (q : Nat) : List Bs := if q = 0 then L else if q = 1 then L.set a tb else (L.set a tb).set b ta
theorem ordL_swap (key : Bs) (n : Nat) (s : Nat → Nat) (a b : Nat) (ha : a < n) (hb : b < n) : ((ordL key n s).set a (recL key (s b) (txO (s b)))).set b (recL key (s a) (txO (s a))) = ordL key n (fun i => s (swp a b i)) :=
  set_swap n (fun i => recL key (s i) (txO (s i))) ha hb
theorem txO_conv {P : Program} (w : World) (k : Nat) (hk : k < 256) (s d e : TypeId) (hs : P.underlying s = some (.slice e)) (he : P.underlying e = some (.int .u8)) (hd : P.underlying d = some .string) :
    (convert s d (.slice (some ⟨w.heap.size, 0, none⟩) 2 2)).run P (w.alloc (.cells #[.int .u8 116, .int .u8 (k : Int)] e)) = .ok (S (txO k)) (w.alloc (.cells #[.int .u8 116, .int .u8 (k : Int)] e)) := by
  refine Row.conv (e := e) s d ?_ rfl hs he hd
  have := Row.new w #[.int .u8 116, .int .u8 (k : Int)] e
  have e2 : cells (txO k) = [.int .u8 116, .int .u8 (k : Int)] := by
    simp [cells, B, txO]; omega
  rw [e2]; exact this
end Go.Esc
namespace Go.Proofs.YticdbilkhkfopaaGreat
open Go.RowKit Go.Esc
set_option maxRecDepth 100000 in
set_option maxHeartbeats 3200000 in
theorem recordOrder_walk {w : World} (s : ByteArray) (hs : s.size ≤ maxLen) (n : Int) (_ : (Lit.int .i64 n).wf = true) (a : Option Addr) (len cap : Nat) (zs : List Int) (hz : IsInts w a len cap zs) :
    Calls Tryz.prog 18 #[.string s, .int .i64 n, .slice a len cap] w fun e w' => e = .returned (.bool true) ∧ Pu w w' := by
  obtain ⟨k0, rfl⟩ : ∃ a, s = bs a := ⟨_, bs_eta s⟩
  have hk0 : k0.length ≤ 9223372036854775807 := by rw [bs_size] at hs; unfold maxLen at hs; omega
  clear hs
  by_cases g1 : n < 0
  · have q1 : n < 0 := g1
    clear hz
    go_enter Tryz.func18, Tryz.ntmps18
    go_wp2_with (go_at_call 53; refine (alive13 _).mono ?_; rintro e w1 ⟨rfl, hp1⟩)
    go_ret
    exact ⟨rfl, hp1⟩
  have q1 : ¬ n < 0 := g1
  by_cases g2 : 40 < n
  · have q2 : 40 < n := g2
    clear hz
    go_enter Tryz.func18, Tryz.ntmps18
    go_wp2_with (go_at_call 53; refine (alive13 _).mono ?_; rintro e w1 ⟨rfl, hp1⟩)
    go_ret
    exact ⟨rfl, hp1⟩
  have q2 : ¬ 40 < n := g2
  by_cases g3 : 60 < len
  · have q3 : (60 : Int) < len := by omega
    clear hz
    go_enter Tryz.func18, Tryz.ntmps18
    go_wp2_with (go_at_call 53; refine (alive13 _).mono ?_; rintro e w1 ⟨rfl, hp1⟩)
    go_ret
    exact ⟨rfl, hp1⟩
  have q3 : ¬ (60 : Int) < len := by omega
  obtain ⟨N, rfl⟩ := Int.eq_ofNat_of_zero_le (show 0 ≤ n by omega)
  have hN : N ≤ 40 := by omega
  have hlen : len ≤ 60 := by omega
  obtain ⟨L, hL, hlm⟩ := hz.its
  have hll := hL.length
  have hln := hL.none
  have HL := Lib.hid hL
  clear hz hL
  have hfl := fun w => fillAny k0 32 hk0 (by decide) w
  have hkl := fillL_length k0 32
  obtain ⟨key, hkey⟩ : ∃ k, k = fillL k0 32 := ⟨_, rfl⟩
  rw [← hkey] at hfl hkl
  obtain ⟨is0, his, hsz, hss, hsb⟩ := info_parts infoSt
  have HF := Lib.hid hfl
  have HKL := Lib.hid hkl
  clear g1 g2 g3 hfl hkl hkey
  go_enter Tryz.func18, Tryz.ntmps18
  go_wp2_with (first
    | (go_at_call 53; refine (alive13 _).mono ?_; rintro e w1 ⟨rfl, hp1⟩)
    | (go_at_call 26; refine (HF.out _).mono ?_; rintro e w2 ⟨rfl, rfl⟩)
    | (go_at_call 54; refine (newOut key HKL.out _).mono ?_; rintro e w3 ⟨ob, rfl, ho3, hp3⟩)
    | (go_at_call 59; refine (newIn key HKL.out _).mono ?_; rintro e w4 ⟨ib, rfl, hi4, hp4⟩
       have oi4 := OI.start (hp1.trans hp3) hp1 hp3 ho3 hi4 hp4))
  have oi5 : OI3 _ _ w w4 ob ib key key 0 0 0 (inOrd 0) _ _ _ _ _ _ := OI3.start oi4
  go_loopw [9, 10, 12] (fun v u x wr => ∃ (k : Nat) (Go Gi : Nat → Prop), k ≤ N ∧ x = .int .i64 (k : Int) ∧ OI3 Go Gi w wr ob ib key key k k 0 (inOrd 0) v (ordL key k (fun i => i)) u (txsL k) (.slice none 0 0) []) (fun _ _ x _ => N - (intOf x).toNat)
  case atStart => exact ⟨0, _, _, Nat.zero_le _, rfl, oi5⟩
  case round =>
    clear oi5 oi4 ho3 hi4
    obtain ⟨k, Go, Gi, hk, rfl, oi⟩ := hrel
    have hown := oi.own1
    rw [ordL_length] at hown
    have hown2 := oi.own2
    rw [txsL_length] at hown2
    obtain ⟨va, vc, rfl, -⟩ := own_slice hown
    obtain ⟨ua, uc, rfl, -⟩ := own_slice hown2
    by_cases hlt : k < N
    · clear hown hown2
      have hk1 : (k : Int) < N := by omega
      have hw : IntKind.u8.wrap (k : Int) = k := by rw [IntKind.wrap_u8]; omega
      have hcv := txO_conv (P := Tryz.prog) wr k (by omega) 42 9 5 Tryz.underlying42 Tryz.underlying5 Tryz.underlying9
      obtain ⟨pp, hpp⟩ := padL_short (p := txO k) (by simp [txO])
      obtain ⟨t, ht⟩ : ∃ t, t = txO k := ⟨_, rfl⟩
      have htl : t.length = 2 := by rw [ht]; rfl
      rw [← ht] at hcv hpp
      have HPP := Lib.hid hpp
      have HT := Lib.hid ht
      clear hpp ht
      have T1 := Lib.hid True.intro
      go_wp2_with (first
        | (go_at_call 55; refine (oi3Seal (oi.pu ((Pu.refl wr).alloc _)) HKL.out t _ HPP.out (by omega) (by omega) (by omega)).mono ?_; rintro e w5 ⟨rfl, oi5⟩
           obtain ⟨r, hr⟩ : ∃ r, r = recL key k t := ⟨_, rfl⟩
           rw [← hr]
           have HR := Lib.hid hr
           clear hr
           have oi6 := oi5.pu ((Pu.refl w5).alloc (.cells #[S r] 9))
           have hown6 := oi6.own1
           rw [ordL_length] at hown6)
        | (at_builtin; clear T1; refine wpList_append_own_at _ rfl _ _ 95 rfl w.heap.size 9 is0 (.string ⟨#[]⟩) 1 16 Tryz.underlying95 his hsz hss hsb rfl (by decide) (.slice va k vc) k _ rfl hown6 ⟨w5.heap.size, 0, none⟩ 1 1 [S r] rfl rfl (cell_one_newS _ _ _) (by simp [Value.oneCell']) (by unfold maxLen; omega) (by omega) (by have := oi5.oi.since.size; simp; omega) ?_; intro v7 w7 ho7 hg7 _ hat7
           have oi7 := (oi6.push (T := [r]) ho7 hg7 hat7 (by rw [ordL_length]; rfl) rfl).rot
           have oi8 := oi7.pu ((Pu.refl w7).alloc (.cells #[S t] 9))
           have hown8 := oi8.own1
           rw [txsL_length] at hown8)
        | (at_builtin; refine wpList_append_own_at _ rfl _ _ 95 rfl w.heap.size 9 is0 (.string ⟨#[]⟩) 1 16 Tryz.underlying95 his hsz hss hsb rfl (by decide) (.slice ua k uc) k _ rfl hown8 ⟨w7.heap.size, 0, none⟩ 1 1 [S t] rfl rfl (cell_one_newS _ _ _) (by simp [Value.oneCell']) (by unfold maxLen; omega) (by omega) (by have := oi7.oi.since.size; simp; omega) ?_; intro v9 w9 ho9 hg9 _ hat9
           have oi9 := ((oi8.push (T := [t]) ho9 hg9 hat9 (by rw [txsL_length]; rfl) rfl).rot).rot))
      go_roundw
      case rel =>
        rw [HR.out, HT.out, ← ordL_succ, ← txsL_succ] at oi9
        exact ⟨k+1, _, _, by omega, by go_num, oi9⟩
      case measure => simp [intOf]; omega
    · obtain rfl : k = N := by omega
      have hlt' : decide ((k : Int) < k) = false := by simp
      clear hown hown2
      go_wp2_with fail
      go_loopw [16] (fun x wq => ∃ (j : Nat) (σ τ : Nat → Nat), j ≤ len ∧ x = .int .i64 (j : Int) ∧ Per k σ τ ∧ OI3 Go Gi w wq ob ib key key k k 0 (inOrd 0) (.slice va k vc) (ordL key k σ) (.slice ua k uc) (txsL k) (.slice none 0 0) []) (fun x _ => len - (intOf x).toNat)
      case atStart => exact ⟨0, _, _, Nat.zero_le _, rfl, Per.id k, oi⟩
      case round =>
        clear oi
        obtain ⟨j, σ, τ, hj, rfl, hper, oi⟩ := hrel
        by_cases hlt2 : j + 1 < len ∧ 0 < k
        · obtain ⟨hj1, hk0'⟩ := hlt2
          obtain ⟨J1, hJ1⟩ : ∃ J1, J1 = j + 1 := ⟨_, rfl⟩
          have hJw : IntKind.i64.wrap ((j : Int) + 1) = J1 := by rw [IntKind.wrap_i64]; omega
          have hj2 : (J1 : Int) < len := by omega
          have hj0 : (0 : Int) ≤ j := by omega
          have hj3 : (j : Int) < len := by omega
          have hj4 : (0 : Int) ≤ J1 := by omega
          have hj5 : (j : Int) + 1 < len := by omega
          have hkp : (0 : Int) < k := by omega
          have hkn : ¬ (k : Int) = 0 := by omega
          have hkm : ¬ k = 0 := by omega
          have hkb : ((k : Int) == 0) = false := by simp; omega
          have hown := oi.own1
          rw [ordL_length] at hown
          obtain ⟨gl, c', e1, -, hgl⟩ := own_form hown (by omega)
          cases e1
          rcases a with _ | x
          · have := hln rfl; omega
          obtain ⟨p1, hp1'⟩ : ∃ t, t = L[j]'(by omega) := ⟨_, rfl⟩
          obtain ⟨p2, hp2'⟩ : ∃ t, t = L[J1]'(by omega) := ⟨_, rfl⟩
          have hc1 : ∀ w', Pu wr w' → w'.cell? (x.add j) = some (.int .i64 p1) := fun w' hp => by
            have hT := (HL.out.keep (oi.oi.since.trans hp)).cell x rfl j (by omega)
            rw [← hp1'] at hT
            exact hT.1
          have hc2 : ∀ w', Pu wr w' → w'.cell? (x.add J1) = some (.int .i64 p2) := fun w' hp => by
            have hT := (HL.out.keep (oi.oi.since.trans hp)).cell x rfl J1 (by omega)
            rw [← hp2'] at hT
            exact hT.1
          have HC1 := Lib.hid hc1
          have HC2 := Lib.hid hc2
          clear hp1' hp2' hc1 hc2 hJ1
          obtain ⟨A, r, r0, r1, r2, r3, r4, hA⟩ := index_of2 p1 k (by omega) (by omega)
          obtain ⟨B, r', r0', r1', r2', r3', r4', hB⟩ := index_of2 p2 k (by omega) (by omega)
          go_wp2_with fail
          apply region_pu (Φs := (Is _ :: Is _ :: Is _ :: Is _ :: Is _ :: Is _ :: Is _ :: Is _ :: Is _ :: Is _ :: Is _ :: Is _ :: Is _ :: Is _ :: Is _ :: Is _ :: Is _ :: Is _ :: Is _ :: Is _ :: Is _ :: Is _ :: Is _ :: [])) (hm := by kernel_rfl) (hE := by kernel_rfl) (hD := by kernel_rfl) (hsize := by kernel_rfl)
          case hop =>
            refine ⟨?_, ?_, ?_, ?_, ?_, ?_, ?_, ?_, ?_, ?_, ?_, ?_, ?_, ?_, ?_, ?_, ?_, ?_, ?_, ?_, ?_, ?_, ?_, trivial⟩
            · intro a' w' hs hp he
              have e2 := hs 2 (by kernel_rfl)
              try simp [Is, Region.binds] at he
              exact op_val rfl (wanted_none rfl) (by first | (go_simp; done) | (go_simp; rfl) | (simp [execOp, Act.eval, go_sem, *]; done) | (simp [execOp, Act.eval, go_sem, *]; rfl)) rfl (Pu.refl _)
            · intro a' w' hs hp he
              have e16 := hs 16 (by kernel_rfl)
              try simp [Is, Region.binds] at he
              exact op_val rfl (wanted_none rfl) (by first | (go_simp; done) | (go_simp; rfl) | (simp [execOp, Act.eval, go_sem, *]; done) | (simp [execOp, Act.eval, go_sem, *]; rfl)) rfl (Pu.refl _)
            · intro a' w' hs hp he
              try simp [Is, Region.binds] at he
              exact op_val rfl (wanted_none rfl) (by first | (go_simp; done) | (go_simp; rfl) | (simp [execOp, Act.eval, go_sem, *]; done) | (simp [execOp, Act.eval, go_sem, *]; rfl)) rfl (Pu.refl _)
            · intro a' w' hs hp he
              try simp [Is, Region.binds] at he
              have hc := HC1.out _ hp; exact op_val rfl (wanted_none rfl) (by first | (go_simp; done) | (go_simp; rfl)) rfl (Below.refl _ _)
            · intro a' w' hs hp he
              have e1 := hs 1 (by kernel_rfl)
              try simp [Is, Region.binds] at he
              exact op_val rfl (wanted_none rfl) (by first | (go_simp; done) | (go_simp; rfl) | (simp [execOp, Act.eval, go_sem, *]; done) | (simp [execOp, Act.eval, go_sem, *]; rfl)) rfl (Pu.refl _)
            · intro a' w' hs hp he
              try simp [Is, Region.binds] at he
              exact op_val rfl (wanted_none rfl) (by first | (go_simp; done) | (go_simp; rfl) | (simp [execOp, Act.eval, go_sem, *]; done) | (simp [execOp, Act.eval, go_sem, *]; rfl)) rfl (Pu.refl _)
            · intro a' w' hs hp he
              have e1 := hs 1 (by kernel_rfl)
              try simp [Is, Region.binds] at he
              exact op_val rfl (wanted_none rfl) (by first | (go_simp; done) | (go_simp; rfl) | (simp [execOp, Act.eval, go_sem, *]; done) | (simp [execOp, Act.eval, go_sem, *]; rfl)) rfl (Pu.refl _)
            · intro a' w' hs hp he
              try simp [Is, Region.binds] at he
              exact op_val rfl (wanted_none rfl) (by first | (go_simp; done) | (go_simp; rfl) | (simp [execOp, Act.eval, go_sem, *]; done) | (simp [execOp, Act.eval, go_sem, *]; rfl)) rfl (Pu.refl _)
            · intro a' w' hs hp he
              have e1 := hs 1 (by kernel_rfl)
              try simp [Is, Region.binds] at he
              exact op_val rfl (wanted_none rfl) (by first | (go_simp; done) | (go_simp; rfl) | (simp [execOp, Act.eval, go_sem, *]; done) | (simp [execOp, Act.eval, go_sem, *]; rfl)) rfl (Pu.refl _)
            · intro a' w' hs hp he
              try simp [Is, Region.binds] at he
              exact op_val rfl (wanted_none rfl) (by first | (go_simp; done) | (go_simp; rfl) | (simp [execOp, Act.eval, go_sem, *]; done) | (simp [execOp, Act.eval, go_sem, *]; rfl)) rfl (Pu.refl _)
            · intro a' w' hs hp he
              have e2 := hs 2 (by kernel_rfl)
              try simp [Is, Region.binds] at he
              exact op_val rfl (wanted_none rfl) (by first | (go_simp; done) | (go_simp; rfl) | (simp [execOp, Act.eval, go_sem, *]; done) | (simp [execOp, Act.eval, go_sem, *]; rfl)) rfl (Pu.refl _)
            · intro a' w' hs hp he
              have e16 := hs 16 (by kernel_rfl)
              try simp [Is, Region.binds] at he
              exact op_val rfl (wanted_none rfl) (by first | (go_simp; done) | (go_simp; rfl) | (simp [execOp, Act.eval, go_sem, *]; done) | (simp [execOp, Act.eval, go_sem, *]; rfl)) rfl (Pu.refl _)
            · intro a' w' hs hp he
              try simp [Is, Region.binds] at he
              exact op_val rfl (wanted_none rfl) (by first | (go_simp; done) | (go_simp; rfl) | (simp [execOp, Act.eval, go_sem, *]; done) | (simp [execOp, Act.eval, go_sem, *]; rfl)) rfl (Pu.refl _)
            · intro a' w' hs hp he
              try simp [Is, Region.binds] at he
              exact op_val rfl (wanted_none rfl) (by first | (go_simp; done) | (go_simp; rfl) | (simp [execOp, Act.eval, go_sem, *]; done) | (simp [execOp, Act.eval, go_sem, *]; rfl)) rfl (Pu.refl _)
            · intro a' w' hs hp he
              try simp [Is, Region.binds] at he
              have hc := HC2.out _ hp; exact op_val rfl (wanted_none rfl) (by first | (go_simp; done) | (go_simp; rfl)) rfl (Below.refl _ _)
            · intro a' w' hs hp he
              have e1 := hs 1 (by kernel_rfl)
              try simp [Is, Region.binds] at he
              exact op_val rfl (wanted_none rfl) (by first | (go_simp; done) | (go_simp; rfl) | (simp [execOp, Act.eval, go_sem, *]; done) | (simp [execOp, Act.eval, go_sem, *]; rfl)) rfl (Pu.refl _)
            · intro a' w' hs hp he
              try simp [Is, Region.binds] at he
              exact op_val rfl (wanted_none rfl) (by first | (go_simp; done) | (go_simp; rfl) | (simp [execOp, Act.eval, go_sem, *]; done) | (simp [execOp, Act.eval, go_sem, *]; rfl)) rfl (Pu.refl _)
            · intro a' w' hs hp he
              have e1 := hs 1 (by kernel_rfl)
              try simp [Is, Region.binds] at he
              exact op_val rfl (wanted_none rfl) (by first | (go_simp; done) | (go_simp; rfl) | (simp [execOp, Act.eval, go_sem, *]; done) | (simp [execOp, Act.eval, go_sem, *]; rfl)) rfl (Pu.refl _)
            · intro a' w' hs hp he
              try simp [Is, Region.binds] at he
              exact op_val rfl (wanted_none rfl) (by first | (go_simp; done) | (go_simp; rfl) | (simp [execOp, Act.eval, go_sem, *]; done) | (simp [execOp, Act.eval, go_sem, *]; rfl)) rfl (Pu.refl _)
            · intro a' w' hs hp he
              have e1 := hs 1 (by kernel_rfl)
              try simp [Is, Region.binds] at he
              exact op_val rfl (wanted_none rfl) (by first | (go_simp; done) | (go_simp; rfl) | (simp [execOp, Act.eval, go_sem, *]; done) | (simp [execOp, Act.eval, go_sem, *]; rfl)) rfl (Pu.refl _)
            · intro a' w' hs hp he
              try simp [Is, Region.binds] at he
              exact op_val rfl (wanted_none rfl) (by first | (go_simp; done) | (go_simp; rfl) | (simp [execOp, Act.eval, go_sem, *]; done) | (simp [execOp, Act.eval, go_sem, *]; rfl)) rfl (Pu.refl _)
            · intro a' w' hs hp he
              try simp [Is, Region.binds] at he
              exact op_val rfl (wanted_none rfl) (by first | (go_simp; done) | (go_simp; rfl) | (simp [execOp, Act.eval, go_sem, *]; done) | (simp [execOp, Act.eval, go_sem, *]; rfl)) rfl (Pu.refl _)
            · intro a' w' hs hp he
              try simp [Is, Region.binds] at he
              exact op_val rfl (wanted_none rfl) (by first | (go_simp; done) | (go_simp; rfl) | (simp [execOp, Act.eval, go_sem, *]; done) | (simp [execOp, Act.eval, go_sem, *]; rfl)) rfl (Pu.refl _)
          case hend =>
            intro a' w' hdef hsz hs hp hall
            obtain ⟨r0, r1, r2, r3, r4, r5, r6, r7, r8, r9, r10, r11, r12, r13, r14, r15, r16, r17, r18, r19, r20, r21, r22, -⟩ := hall
            have hA := agree_done (agree_step (agree_step (agree_step (agree_step (agree_step (agree_step (agree_step (agree_step (agree_step (agree_step (agree_step (agree_step (agree_step (agree_step (agree_step (agree_step (agree_step (agree_step (agree_step (agree_step (agree_step (agree_step (agree_step (agree_init [88, 89, 90, 91, 92, 93, 94, 95, 96, 97, 98, 99, 100, 101, 102, 103, 104, 105, 106, 107, 108, 17, 18] hsz hs (by kernel_rfl)) r0) r1) r2) r3) r4) r5) r6) r7) r8) r9) r10) r11) r12) r13) r14) r15) r16) r17) r18) r19) r20) r21) r22)
            have ha := act_of hA hdef
            rw [ha]
            clear ha hA hs hsz hdef r0 r1 r2 r3 r4 r5 r6 r7 r8 r9 r10 r11 r12 r13 r14 r15 r16 r17 r18 r19 r20 r21 r22 
            (try simp only [List.setIfInBounds_toArray])
            (try dsimp only [List.set_cons_zero, List.set_cons_succ])
            (try simp only [Exit.then])
            rename World => w5
            have oi5 := oi.pu hp
            have hown5 := oi5.own1
            rw [ordL_length] at hown5
            clear hown oi hp HC1 HC2
            obtain ⟨tA, htA⟩ : ∃ t, t = recL key (σ A) (txO (σ A)) := ⟨_, rfl⟩
            obtain ⟨tB, htB⟩ : ∃ t, t = recL key (σ B) (txO (σ B)) := ⟨_, rfl⟩
            have atA := ordL_at key k σ A hA
            have atB := ordL_at key k σ B hB
            rw [← htA] at atA
            rw [← htB] at atB
            have HTA := Lib.hid htA
            have HTB := Lib.hid htB
            obtain ⟨lx, hlx⟩ : ∃ l, l = ordL key k σ := ⟨_, rfl⟩
            rw [← hlx] at atA atB hown5
            have HLX := Lib.hid hlx
            clear htA htB hlx
            have iA0 : (0 : Int) ≤ A := by omega
            have iA1 : (A : Int) < k := by omega
            have iB0 : (0 : Int) ≤ B := by omega
            have iB1 : (B : Int) < k := by omega
            have hgl5 : gl < w5.heap.size := (hown5.lt gl rfl).2
            go_wp2_with fail
            apply region_chain (g := gl) (chain := [13, 15]) (C := (fun q w' => w'.ownsRow w.heap.size 9 1 (.slice (some ⟨gl, 0, none⟩) k vc) k ((swS lx A B tA tB q).map S))) (Φs := (Is _ :: Is _ :: Is _ :: Is _ :: Is _ :: Is _ :: Is _ :: Is _ :: Is _ :: Is _ :: Is _ :: Is _ :: Is _ :: Is _ :: Is _ :: Is _ :: [])) (hm := by kernel_rfl) (hE := by kernel_rfl) (hD := by kernel_rfl) (hup := by kernel_rfl) (hch := by kernel_rfl) (hsize := by kernel_rfl)
            case hC =>
              intro s a b h hp
              exact own_pu h hp
            case hC0 =>
              exact hown5
            case hop =>
              refine ⟨?_, ?_, ?_, ?_, ?_, ?_, ?_, ?_, ?_, ?_, ?_, ?_, ?_, ?_, ?_, ?_, trivial⟩
              · intro a' w' s hs hp hC hlo hhi he
                rw [if_neg (by decide)]
                clear hlo hhi
                have e9 := hs 9 (by kernel_rfl)
                try simp [Is, Region.binds] at he
                exact op_val rfl (wanted_none rfl) (by first | (go_simp; done) | (go_simp; rfl) | (simp [execOp, Act.eval, go_sem, *]; done) | (simp [execOp, Act.eval, go_sem, *]; rfl)) rfl (Pu.refl _)
              · intro a' w' s hs hp hC hlo hhi he
                rw [if_neg (by decide)]
                clear hlo hhi
                have e17 := hs 17 (by kernel_rfl)
                try simp [Is, Region.binds] at he
                exact op_val rfl (wanted_none rfl) (by first | (go_simp; done) | (go_simp; rfl) | (simp [execOp, Act.eval, go_sem, *]; done) | (simp [execOp, Act.eval, go_sem, *]; rfl)) rfl (Pu.refl _)
              · intro a' w' s hs hp hC hlo hhi he
                rw [if_neg (by decide)]
                clear hlo hhi
                have e9 := hs 9 (by kernel_rfl)
                try simp [Is, Region.binds] at he
                exact op_val rfl (wanted_none rfl) (by first | (go_simp; done) | (go_simp; rfl) | (simp [execOp, Act.eval, go_sem, *]; done) | (simp [execOp, Act.eval, go_sem, *]; rfl)) rfl (Pu.refl _)
              · intro a' w' s hs hp hC hlo hhi he
                rw [if_neg (by decide)]
                clear hlo hhi
                have e18 := hs 18 (by kernel_rfl)
                try simp [Is, Region.binds] at he
                exact op_val rfl (wanted_none rfl) (by first | (go_simp; done) | (go_simp; rfl) | (simp [execOp, Act.eval, go_sem, *]; done) | (simp [execOp, Act.eval, go_sem, *]; rfl)) rfl (Pu.refl _)
              · intro a' w' s hs hp hC hlo hhi he
                rw [if_neg (by decide)]
                clear hlo hhi
                have e9 := hs 9 (by kernel_rfl)
                try simp [Is, Region.binds] at he
                exact op_val rfl (wanted_none rfl) (by first | (go_simp; done) | (go_simp; rfl) | (simp [execOp, Act.eval, go_sem, *]; done) | (simp [execOp, Act.eval, go_sem, *]; rfl)) rfl (Pu.refl _)
              · intro a' w' s hs hp hC hlo hhi he
                rw [if_neg (by decide)]
                clear hlo hhi
                have e18 := hs 18 (by kernel_rfl)
                try simp [Is, Region.binds] at he
                exact op_val rfl (wanted_none rfl) (by first | (go_simp; done) | (go_simp; rfl) | (simp [execOp, Act.eval, go_sem, *]; done) | (simp [execOp, Act.eval, go_sem, *]; rfl)) rfl (Pu.refl _)
              · intro a' w' s hs hp hC hlo hhi he
                rw [if_neg (by decide)]
                clear hlo hhi
                try simp [Is, Region.binds] at he
                exact op_val rfl (wanted_none rfl) (by first | (go_simp; done) | (go_simp; rfl) | (simp [execOp, Act.eval, go_sem, *]; done) | (simp [execOp, Act.eval, go_sem, *]; rfl)) rfl (Pu.refl _)
              · intro a' w' s hs hp hC hlo hhi he
                rw [if_neg (by decide)]
                have hs0 : s = 0 := Nat.le_zero.1 (Nat.le_trans hhi (Nat.le_of_eq (by kernel_rfl)))
                subst hs0
                clear hlo hhi
                try simp [Is, Region.binds] at he
                have c := (hC.cellAt B (by omega)).trans atB; exact op_val rfl (wanted_none rfl) (by first | (go_simp; done) | (go_simp; rfl)) rfl (Pu.refl _)
              · intro a' w' s hs hp hC hlo hhi he
                rw [if_neg (by decide)]
                clear hlo hhi
                have e9 := hs 9 (by kernel_rfl)
                try simp [Is, Region.binds] at he
                exact op_val rfl (wanted_none rfl) (by first | (go_simp; done) | (go_simp; rfl) | (simp [execOp, Act.eval, go_sem, *]; done) | (simp [execOp, Act.eval, go_sem, *]; rfl)) rfl (Pu.refl _)
              · intro a' w' s hs hp hC hlo hhi he
                rw [if_neg (by decide)]
                clear hlo hhi
                have e17 := hs 17 (by kernel_rfl)
                try simp [Is, Region.binds] at he
                exact op_val rfl (wanted_none rfl) (by first | (go_simp; done) | (go_simp; rfl) | (simp [execOp, Act.eval, go_sem, *]; done) | (simp [execOp, Act.eval, go_sem, *]; rfl)) rfl (Pu.refl _)
              · intro a' w' s hs hp hC hlo hhi he
                rw [if_neg (by decide)]
                clear hlo hhi
                try simp [Is, Region.binds] at he
                exact op_val rfl (wanted_none rfl) (by first | (go_simp; done) | (go_simp; rfl) | (simp [execOp, Act.eval, go_sem, *]; done) | (simp [execOp, Act.eval, go_sem, *]; rfl)) rfl (Pu.refl _)
              · intro a' w' s hs hp hC hlo hhi he
                rw [if_neg (by decide)]
                have hs0 : s = 0 := Nat.le_zero.1 (Nat.le_trans hhi (Nat.le_of_eq (by kernel_rfl)))
                subst hs0
                clear hlo hhi
                try simp [Is, Region.binds] at he
                have c := (hC.cellAt A (by omega)).trans atA; exact op_val rfl (wanted_none rfl) (by first | (go_simp; done) | (go_simp; rfl)) rfl (Pu.refl _)
              · intro a' w' s hs hp hC hlo hhi he
                rw [if_neg (by decide)]
                clear hlo hhi
                try simp [Is, Region.binds] at he
                exact op_val rfl (wanted_none rfl) (by first | (go_simp; done) | (go_simp; rfl) | (simp [execOp, Act.eval, go_sem, *]; done) | (simp [execOp, Act.eval, go_sem, *]; rfl)) rfl (Pu.refl _)
              · intro a' w' s hs hp hC hlo hhi he
                rw [if_pos (by decide)]; intro hsc; clear hsc
                have hs0 : s = 0 := Nat.le_antisymm (Nat.le_trans hhi (Nat.le_of_eq (by kernel_rfl))) (Nat.le_trans (Nat.le_of_eq (by kernel_rfl)) hlo)
                subst hs0
                clear hlo hhi
                try simp [Is, Region.binds] at he
                have hc := (hC.cellAt A (by omega)).trans atA; have hf := hC.frozenAt A; refine op_doneC rfl (wanted_none rfl) (by first | (go_simp; done) | (go_simp; rfl)) rfl ?_ (But.set _ _ _); have hst := (hC.stored A (S tB)).1; rw [← List.map_set] at hst; exact hst
              · intro a' w' s hs hp hC hlo hhi he
                rw [if_neg (by decide)]
                clear hlo hhi
                try simp [Is, Region.binds] at he
                exact op_val rfl (wanted_none rfl) (by first | (go_simp; done) | (go_simp; rfl) | (simp [execOp, Act.eval, go_sem, *]; done) | (simp [execOp, Act.eval, go_sem, *]; rfl)) rfl (Pu.refl _)
              · intro a' w' s hs hp hC hlo hhi he
                rw [if_pos (by decide)]; intro hsc; clear hsc
                have hs0 : s = 1 := Nat.le_antisymm (Nat.le_trans hhi (Nat.le_of_eq (by kernel_rfl))) (Nat.le_trans (Nat.le_of_eq (by kernel_rfl)) hlo)
                subst hs0
                clear hlo hhi
                try simp [Is, Region.binds] at he
                obtain ⟨c0, hc⟩ : ∃ v, w'.cell? ⟨gl, B, none⟩ = some v := ⟨_, (hC.cellAt B (by omega)).trans (List.getElem?_eq_getElem (by have := hC.1; omega))⟩; have hf := hC.frozenAt B; refine op_doneC rfl (wanted_none rfl) (by first | (go_simp; done) | (go_simp; rfl)) rfl ?_ (But.set _ _ _); have hst := (hC.stored B (S tA)).1; rw [← List.map_set] at hst; exact hst
            case hend =>
              intro a' w' hdef hsz hs hp hC hall
              obtain ⟨r0, r1, r2, r3, r4, r5, r6, r7, r8, r9, r10, r11, r12, r13, r14, r15, -⟩ := hall
              have hA := agree_done (agree_step (agree_step (agree_step (agree_step (agree_step (agree_step (agree_step (agree_step (agree_step (agree_step (agree_step (agree_step (agree_step (agree_step (agree_init [109, 110, 111, 112, 113, 114, 115, 116, 117, 118, 119, 120, 121, 122] hsz hs (by kernel_rfl)) r0) r1) r2) r3) r4) r5) r6) r7) r8) r9) r10) r11) r12) r14)
              have ha := act_of hA hdef
              rw [ha]
              clear ha hA hs hsz hdef r0 r1 r2 r3 r4 r5 r6 r7 r8 r9 r10 r11 r12 r13 r14 r15 
              (try simp only [List.setIfInBounds_toArray])
              (try dsimp only [List.set_cons_zero, List.set_cons_succ])
              (try simp only [Exit.then])
              rename World => w6
              have ho6 : w6.ownsRow w.heap.size 9 1 (.slice (some ⟨gl, 0, none⟩) k vc) k ((ordL key k (fun i => σ (swp A B i))).map S) := by
                rw [← ordL_swap key k σ A B hA hB, ← HLX.out, ← HTA.out, ← HTB.out]; exact hC
              have oi6 := oi5.chg (L' := ordL key k (fun i => σ (swp A B i))) (Cg.ofBut hp rfl) (by rw [ordL_length]; exact ho6) (.inl rfl)
              clear hC hp oi5 hown5
              go_wp2_with fail
              go_roundw
              case rel => exact ⟨j + 2, _, _, by omega, by go_num, hper.swap hA hB, oi6⟩
              case measure => simp [intOf]; omega
        · have hnot : ¬ ((j : Int) + 1 < len ∧ (0 : Int) < k) := by omega
          have T1 := Lib.hid True.intro
          have oiX := oi
          clear oi
          by_cases hj1 : (j : Int) + 1 < len
          · have hkz : decide ((0 : Int) < k) = false := by simp; omega
            have hkz' : ¬ (0 : Int) < k := by omega
            clear hnot
            go_wp2_with fail
            go_loopw [11, 19] (fun v x wq => ∃ (q M : Nat) (Go Gi : Nat → Prop), q ≤ k ∧ x = .int .i64 (q : Int) ∧ First k q M τ ∧ OI3 Go Gi w wq ob ib key key k k (2 * q) (ordS k q M τ) (.slice va k vc) (ordL key k σ) (.slice ua k uc) (txsL k) v (txsL M)) (fun _ x _ => k - (intOf x).toNat)
            case atStart => exact ⟨0, 0, _, _, Nat.zero_le _, rfl, (ord_start k τ).1, by rw [(ord_start k τ).2]; exact oiX⟩
            case round =>
              clear oiX
              obtain ⟨q, M, Go, Gi, hq, rfl, hF, oi⟩ := hrel
              have hown := oi.own1
              rw [ordL_length] at hown
              have hown2 := oi.own2
              rw [txsL_length] at hown2
              have hown3 := oi.own3
              rw [txsL_length] at hown3
              obtain ⟨ga, gc, rfl, -⟩ := own_slice hown3
              have hMk := hF.le
              by_cases hlt3 : q < k
              · have hq1 : (q : Int) < k := by omega
                have hq0 : (0 : Int) ≤ q := by omega
                obtain ⟨gl, c', e1, -, hgl⟩ := own_form hown (by omega)
                cases e1
                have hat := ordL_at key k σ q hlt3
                obtain ⟨M', hM1, hF', hs1, hs2⟩ := ord_step key HKL.out hper hF (by omega) hlt3
                have hM2 := hF'.le
                obtain ⟨pp, hpp⟩ := padL_short (p := txO (σ q)) (by simp [txO])
                have hrl := recL_le key (σ q) hpp
                obtain ⟨r, hr⟩ : ∃ r, r = recL key (σ q) (txO (σ q)) := ⟨_, rfl⟩
                obtain ⟨news, hnews⟩ : ∃ l, l = (List.range (M' - M)).map (fun j => txO (M + j)) := ⟨_, rfl⟩
                have hnl : news.length = M' - M := by rw [hnews]; simp
                have hadd := txsL_add M M' hM1
                rw [← hr] at hat hrl hs1 hs2
                rw [← hnews] at hs1 hadd
                have hcl : wr.cell? ⟨gl, q, none⟩ = some (S r) := by rw [hown.cellAt q (by omega)]; exact hat
                have HS1 := Lib.hid hs1
                have HS2 := Lib.hid hs2
                have HAT := Lib.hid hat
                clear hs1 hs2 hr hnews hpp hown hown2 hown3 hat
                go_wp2_with (first
                  | (go_at_call 61; clear T1; refine (oi3Open oi HKL.out r (by omega) (by omega)).mono ?_; rw [HS1.out]; rintro e w7 ⟨v7, rfl, ho7, oi7, hc7⟩
                     change World.ownsRow _ _ _ 1 v7 news.length (news.map S) at ho7
                     have hcl7 : w7.cell? ⟨gl, q, none⟩ = some (S r) := by
                       have h := oi7.own1
                       rw [ordL_length] at h
                       rw [h.cellAt q (by omega)]; exact HAT.out)
                  | (go_at_call 61; refine (oi3Open oi7 HKL.out r (by omega) (by omega)).mono ?_; rw [HS2.out]; rintro e w8 ⟨v8, rfl, ho8, oi8, hc8⟩
                     change World.ownsRow _ _ _ 1 v8 0 [] at ho8
                     obtain ⟨a8, q8, rfl, -⟩ := own_slice ho8
                     have ho78 := own_cg ho7 hc8 (fun g hg hh => hh.2 hg)
                     have hown8 := oi8.own3
                     rw [txsL_length] at hown8)
                  | (at_builtin; refine wpList_append_two rfl _ _ 95 rfl w.heap.size 9 is0 (.string ⟨#[]⟩) 16 Tryz.underlying95 his hsz hss hsb rfl (.slice ga M gc) M _ rfl hown8 _ v7 news.length _ rfl ho78 (by intro u hu; obtain ⟨x, -, rfl⟩ := List.mem_map.1 hu; rfl) (by unfold maxLen; omega) (by omega) oi8.oi.since.size ?_; intro v9 w9 ho9 hg9 hat9
                     have oi9 := (oi8.rot.rot.push (T := news) ho9 hg9 hat9 (by rw [txsL_length]) rfl).rot))
                go_roundw
                case rel =>
                  rw [hadd, show 2 * q + 1 + 1 = 2 * (q + 1) by omega] at oi9
                  exact ⟨q + 1, M', _, _, by omega, by go_num, hF', oi9⟩
                case measure => simp [intOf]; omega
              · obtain rfl : q = k := by omega
                obtain rfl : q = M := (ord_end hper hF).symm
                have hlt4 : decide ((q : Int) < q) = false := by simp
                clear hown
                obtain ⟨s9, hs9⟩ : ∃ s, s = ordS q q q τ := ⟨_, rfl⟩
                have hc9 : s9.c = 0 := by rw [hs9]; exact Nat.sub_self _
                have hn9 : s9.n = q := by rw [hs9]; rfl
                rw [← hs9] at oi
                have HC9 := Lib.hid hc9
                have HN9 := Lib.hid hn9
                clear hc9 hn9 hs9
                go_wp2_with (first
                  | (go_at_call 66; refine (sameTexts (txsL q) q (txsL_length q).symm hown3 hown2 (by omega)).mono ?_; rintro e w9 ⟨rfl, hp9⟩; have oi9 := oi.pu hp9)
                  | (go_at_call 67; refine (inWaits oi9.oi.i).mono ?_; rw [HC9.out]; rintro e w10 ⟨rfl, rfl⟩)
                  | (go_at_call 62; refine (inNext oi9.oi.i).mono ?_; rw [HN9.out]; rintro e w11 ⟨rfl, rfl⟩))
                go_ret
                exact ⟨ret_bool (by simp), oi9.oi.since⟩
          · clear hnot
            go_wp2_with fail
            go_loopw [11, 19] (fun v x wq => ∃ (q M : Nat) (Go Gi : Nat → Prop), q ≤ k ∧ x = .int .i64 (q : Int) ∧ First k q M τ ∧ OI3 Go Gi w wq ob ib key key k k (2 * q) (ordS k q M τ) (.slice va k vc) (ordL key k σ) (.slice ua k uc) (txsL k) v (txsL M)) (fun _ x _ => k - (intOf x).toNat)
            case atStart => exact ⟨0, 0, _, _, Nat.zero_le _, rfl, (ord_start k τ).1, by rw [(ord_start k τ).2]; exact oiX⟩
            case round =>
              clear oiX
              obtain ⟨q, M, Go, Gi, hq, rfl, hF, oi⟩ := hrel
              have hown := oi.own1
              rw [ordL_length] at hown
              have hown2 := oi.own2
              rw [txsL_length] at hown2
              have hown3 := oi.own3
              rw [txsL_length] at hown3
              obtain ⟨ga, gc, rfl, -⟩ := own_slice hown3
              have hMk := hF.le
              by_cases hlt3 : q < k
              · have hq1 : (q : Int) < k := by omega
                have hq0 : (0 : Int) ≤ q := by omega
                obtain ⟨gl, c', e1, -, hgl⟩ := own_form hown (by omega)
                cases e1
                have hat := ordL_at key k σ q hlt3
                obtain ⟨M', hM1, hF', hs1, hs2⟩ := ord_step key HKL.out hper hF (by omega) hlt3
                have hM2 := hF'.le
                obtain ⟨pp, hpp⟩ := padL_short (p := txO (σ q)) (by simp [txO])
                have hrl := recL_le key (σ q) hpp
                obtain ⟨r, hr⟩ : ∃ r, r = recL key (σ q) (txO (σ q)) := ⟨_, rfl⟩
                obtain ⟨news, hnews⟩ : ∃ l, l = (List.range (M' - M)).map (fun j => txO (M + j)) := ⟨_, rfl⟩
                have hnl : news.length = M' - M := by rw [hnews]; simp
                have hadd := txsL_add M M' hM1
                rw [← hr] at hat hrl hs1 hs2
                rw [← hnews] at hs1 hadd
                have hcl : wr.cell? ⟨gl, q, none⟩ = some (S r) := by rw [hown.cellAt q (by omega)]; exact hat
                have HS1 := Lib.hid hs1
                have HS2 := Lib.hid hs2
                have HAT := Lib.hid hat
                clear hs1 hs2 hr hnews hpp hown hown2 hown3 hat
                go_wp2_with (first
                  | (go_at_call 61; clear T1; refine (oi3Open oi HKL.out r (by omega) (by omega)).mono ?_; rw [HS1.out]; rintro e w7 ⟨v7, rfl, ho7, oi7, hc7⟩
                     change World.ownsRow _ _ _ 1 v7 news.length (news.map S) at ho7
                     have hcl7 : w7.cell? ⟨gl, q, none⟩ = some (S r) := by
                       have h := oi7.own1
                       rw [ordL_length] at h
                       rw [h.cellAt q (by omega)]; exact HAT.out)
                  | (go_at_call 61; refine (oi3Open oi7 HKL.out r (by omega) (by omega)).mono ?_; rw [HS2.out]; rintro e w8 ⟨v8, rfl, ho8, oi8, hc8⟩
                     change World.ownsRow _ _ _ 1 v8 0 [] at ho8
                     obtain ⟨a8, q8, rfl, -⟩ := own_slice ho8
                     have ho78 := own_cg ho7 hc8 (fun g hg hh => hh.2 hg)
                     have hown8 := oi8.own3
                     rw [txsL_length] at hown8)
                  | (at_builtin; refine wpList_append_two rfl _ _ 95 rfl w.heap.size 9 is0 (.string ⟨#[]⟩) 16 Tryz.underlying95 his hsz hss hsb rfl (.slice ga M gc) M _ rfl hown8 _ v7 news.length _ rfl ho78 (by intro u hu; obtain ⟨x, -, rfl⟩ := List.mem_map.1 hu; rfl) (by unfold maxLen; omega) (by omega) oi8.oi.since.size ?_; intro v9 w9 ho9 hg9 hat9
                     have oi9 := (oi8.rot.rot.push (T := news) ho9 hg9 hat9 (by rw [txsL_length]) rfl).rot))
                go_roundw
                case rel =>
                  rw [hadd, show 2 * q + 1 + 1 = 2 * (q + 1) by omega] at oi9
                  exact ⟨q + 1, M', _, _, by omega, by go_num, hF', oi9⟩
                case measure => simp [intOf]; omega
              · obtain rfl : q = k := by omega
                obtain rfl : q = M := (ord_end hper hF).symm
                have hlt4 : decide ((q : Int) < q) = false := by simp
                clear hown
                obtain ⟨s9, hs9⟩ : ∃ s, s = ordS q q q τ := ⟨_, rfl⟩
                have hc9 : s9.c = 0 := by rw [hs9]; exact Nat.sub_self _
                have hn9 : s9.n = q := by rw [hs9]; rfl
                rw [← hs9] at oi
                have HC9 := Lib.hid hc9
                have HN9 := Lib.hid hn9
                clear hc9 hn9 hs9
                go_wp2_with (first
                  | (go_at_call 66; refine (sameTexts (txsL q) q (txsL_length q).symm hown3 hown2 (by omega)).mono ?_; rintro e w9 ⟨rfl, hp9⟩; have oi9 := oi.pu hp9)
                  | (go_at_call 67; refine (inWaits oi9.oi.i).mono ?_; rw [HC9.out]; rintro e w10 ⟨rfl, rfl⟩)
                  | (go_at_call 62; refine (inNext oi9.oi.i).mono ?_; rw [HN9.out]; rintro e w11 ⟨rfl, rfl⟩))
                go_ret
                exact ⟨ret_bool (by simp), oi9.oi.since⟩
end Go.Proofs.YticdbilkhkfopaaGreat
