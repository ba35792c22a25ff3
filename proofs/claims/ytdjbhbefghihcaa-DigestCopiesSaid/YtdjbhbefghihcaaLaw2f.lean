/- Chapter 2: DigestCopies, the walk. -/
import Derived.Test.YtdjbhbefghihcaaLaw2e
set_option linter.unusedSimpArgs false
set_option linter.unusedVariables false
namespace Go.Proofs.Ytdjbhbefghihcaa
open Go.RowKit Go.Esc
set_option maxRecDepth 100000 in
set_option maxHeartbeats 3200000 in
theorem digestCopies_walk {w : World} (a : Option Addr) (len cap : Nat) (zs : List ByteArray) (hz : IsStrs w a len cap zs) :
    Calls Try.prog 13 #[.slice a len cap] w fun e w' => e = .returned (.bool true) ∧ Pu w w' := by
  obtain ⟨L, hL, hlm⟩ := hz.txt
  clear hz
  by_cases g1 : 12 < len
  · have q1 : (12 : Int) < len := by omega
    go_enter Try.func13, Try.ntmps13
    go_wp2_with (go_at_call 40; refine (alive2 _).mono ?_; rintro e w1 ⟨rfl, hp1⟩)
    go_ret
    exact ⟨rfl, hp1⟩
  have q1 : decide ((12 : Int) < len) = false := by simp; omega
  have hll := hL.length
  have hln := hL.none
  have HL := Lib.hid hL
  have HG := Lib.hid g1
  obtain ⟨ip, hip, hpz, hps, hpb⟩ := info_parts infoP
  obtain ⟨is, his, hsz, hss, hsb⟩ := info_parts infoS
  clear hL g1
  go_enter Try.func13, Try.ntmps13
  go_wp2_with (go_at_call 40; refine (alive2 _).mono ?_; rintro e w1 ⟨rfl, hp1⟩)
  have hd0 := Dig.new w1 38
  have hb0 := (Pu.refl w1).alloc (.cells (dcells false zero8 [] 0).toArray 38)
  go_loopw [4, 5, 6, 7] (fun v4 v5 v6 v7 wr => ∃ (i : Nat) (tot : Bs) (bl : List Nat) (hs : List Bs), i ≤ len ∧ bl.length = i ∧ hs.length = i ∧ tot.length ≤ 100 * i ∧ (∀ j, (hs.getD j []).length ≤ 1200) ∧ v4 = S tot ∧ v7 = .int .i64 (i : Int) ∧ Dig wr w1.heap.size tot ∧ Cop w1.heap.size wr v5 v6 i bl hs hs ∧ Below w1.heap.size w1 wr) (fun _ _ _ v _ => len - (intOf v).toNat)
  case atStart => exact ⟨0, [], [], [], by omega, rfl, rfl, by simp, by simp, rfl, rfl, hd0, ⟨World.ownsRow_nil _ _ _ _, World.ownsRow_nil _ _ _ _, fun j hj => (by omega), fun i j hi => (by omega), fun q hq => (by cases hq), fun q hq => (by cases hq)⟩, hb0⟩
  case round =>
    clear hd0 hb0
    obtain ⟨i, tot, bl, hs, hi, hbl, hhl, htl, hsl, rfl, rfl, hd1, hco, hbel⟩ := hrel
    have h12 := HG.out
    by_cases hlt : i < len
    · rcases a with _ | x
      · have := hln rfl; omega
      obtain ⟨t, ht⟩ : ∃ t, t = L[i]'(by omega) := ⟨_, rfl⟩
      have hcell : ∀ w', Below w1.heap.size w1 w' → w'.cell? (x.add i) = some (S t) := by
        intro w' hb
        have hT := (HL.out.keep (hp1.trans (Below.mono hb (Nat.le_refl _)))).cell x rfl i (by omega)
        rw [← ht] at hT
        exact hT.1
      have hc := hcell _ hbel
      have HC := Lib.hid hcell
      have hi1 : (i : Int) < len := by omega
      have hi0 : (0 : Int) ≤ i := by omega
      clear ht hcell
      by_cases h100 : 100 < t.length
      · have q5 : (100 : Int) < t.length := by omega
        go_wp2_with fail
        go_ret
        exact ⟨rfl, hp1.trans hbel⟩
      have q5 : decide ((100 : Int) < t.length) = false := by simp; omega
      have htlen2 : tot.length + t.length ≤ 1000000 := by omega
      have hz9 : ¬ (9223372036854775807 < tot.length + t.length) := by omega
      have HSL := Lib.hid hsl
      have HT := Lib.hid htl
      have H1 := Lib.hid h100
      subst hbl
      have HHL := Lib.hid hhl
      have hb12 : bl.length ≤ 12 := by omega
      clear hsl htl h100 hhl h12
      go_wp2_with (first
        | (go_at_call 46; refine (digestCopy _ _ _ hd1).mono ?_; rintro e w3 ⟨b, rfl, hgb, hdb, hp3⟩; have hgl := hd1.lt; replace hd1 := hd1.pu hp3; have hgl3 := hd1.lt; replace hbel := hbel.trans (Below.mono hp3 hbel.size); have hco3 := hco.pu hp3
           have n1 : ∀ j, j < bl.length → bl.getD j 0 ≠ b := fun j hj e => by have := (hco.dig j hj).2.lt; omega
           have n5 : u5.ownBlock ≠ some b := fun e => by have := (hco.o5.lt _ e).2; omega
           have n6 : u6.ownBlock ≠ some b := fun e => by have := (hco.o6.lt _ e).2; omega
           clear hco)
        | (at_builtin; refine wpList_append_own_at _ rfl (.tmp 31) (.tmp 34) 47 rfl (w1.heap.size + 1) 34 ip (.pointer none) 1 8 Try.underlying47 hip hpz hps hpb rfl (by decide) u5 bl.length _ rfl (hco3.o5.alloc _) ⟨w3.heap.size, 0, none⟩ 1 1 [P1 b] rfl rfl (cell_one_new _ _ _) (by simp [P1, Value.oneCell']) (by unfold maxLen; omega) (by omega) (by simp; omega) ?_; intro v5' w4 ho5 hgr5 _ hat5; have hal3 := (Pu.refl w3).alloc (.cells #[P1 b] 34); have hd4 := (hd1.pu hal3).grown' hgr5 (fun e => by have := (hco3.o5.lt _ e).1; omega); have hco4 := (hco3.pu hal3).push5 HHL.out (hdb.pu hal3) (by omega) n1 n5 n6 ho5 hgr5 hat5; have hbel4 := (hbel.trans (Below.mono hal3 hbel.size)).grown hgr5 (by have := hbel.size; simp; omega) (by intro k e; have := (hco3.o5.lt _ e).1; omega); clear hd1 hbel n1 n5 n6 ho5 hgr5 hat5 hdb)
        | (at_builtin; refine wpList_append_own_at _ rfl (.tmp 36) (.tmp 38) 44 rfl (w1.heap.size + 1) 9 is (.string ⟨#[]⟩) 1 16 Try.underlying44 his hsz hss hsb rfl (by decide) u6 hs.length _ rfl (hco4.o6.alloc _) ⟨w4.heap.size, 0, none⟩ 1 1 [S tot] rfl rfl (cell_one_new _ _ _) (by simp [Value.oneCell']) (by have := HHL.out; unfold maxLen; omega) (by have := HHL.out; omega) (by have := hbel4.size; simp; omega) ?_
           intro v6' w5 ho6 hgr6 _ hat6
           have hal4 := (Pu.refl w4).alloc (.cells #[S tot] 9)
           have hd5 := (hd4.pu hal4).grown' hgr6 (fun e => by have := (hco4.o6.lt _ e).1; omega)
           have hco5 := (hco4.pu hal4).push6 ho6 hgr6 hat6
           have hbel5 := (hbel4.trans (Below.mono hal4 hbel4.size)).grown hgr6 (by have := hbel4.size; simp; omega) (by intro k e; have := (hco4.o6.lt _ e).1; omega)
           have hc := HC.out _ hbel5
           clear hd4 hbel4 ho6 hgr6 hat6 hco4)
        | (go_at_call 43; refine (digestAdd w1.heap.size tot t (by simpa using htlen2) _ hd5).mono ?_
           rintro e w6 ⟨rfl, hb6, hd6⟩; have hbel6 := But.below hbel5 hb6 (Nat.le_refl _) hbel5.size; have hco6 := hco5.butg hb6; have hc := HC.out _ hbel6; clear hbel5 hco5 hd5))
      go_roundw
      case rel =>
        have a1 := HT.out
        have a2 := H1.out
        have a3 := HHL.out
        refine ⟨bl.length + 1, tot ++ t, bl ++ [b], hs ++ [tot], by omega, by simp, by simp; omega, by simp; omega, ?_, rfl, by go_num, hd6, hco6, hbel6⟩
        intro j
        by_cases hj : j < hs.length
        · rw [getD_old _ _ _ hj]; exact HSL.out j
        · by_cases hj2 : j = hs.length
          · subst hj2; rw [getD_new]; omega
          · rw [List.getD_eq_getElem?_getD, List.getElem?_eq_none (by simp; omega)]; simp
      case measure => simp [intOf]; omega
    · obtain rfl : i = len := by omega
      have hlt' : decide ((i : Int) < i) = false := by simp
      obtain ⟨d, hdd⟩ : ∃ d, d = sha tot := ⟨_, rfl⟩
      have hR := fun w => refSum tot (by omega) w
      have hT := fun w g h => digestSum g tot (by omega) w h
      rw [← hdd] at hR hT
      have HR := Lib.hid hR
      have HT := Lib.hid hT
      clear hR hT hdd
      have o5 := hco.o5
      have o6 := hco.o6
      obtain ⟨a5, c5, rfl, -⟩ := own_slice o5
      obtain ⟨a6, c6, rfl, -⟩ := own_slice o6
      subst hbl
      rw [hhl] at hco o6 ⊢
      have im1 : IntKind.i64.wrap ((bl.length : Int) - 1) = (bl.length : Int) - 1 := by rw [IntKind.wrap_i64]; omega
      have HSL := Lib.hid hsl
      have HHL := Lib.hid hhl
      clear hsl hhl o5 o6
      go_wp2_with fail
      go_loopw [8] (fun v8 wq => ∃ (k : Nat) (z : Int), k ≤ bl.length ∧ v8 = .int .i64 z ∧ z = (k : Int) - 1 ∧ Dig wq w1.heap.size tot ∧ Cop w1.heap.size wq (.slice a5 bl.length c5) (.slice a6 bl.length c6) k bl hs hs ∧ Below w1.heap.size w1 wq) (fun v _ => (intOf v + 1).toNat)
      case atStart => exact ⟨bl.length, (bl.length : Int) - 1, Nat.le_refl _, by go_num, rfl, hd1, hco, hbel⟩
      case round =>
        clear hd1 hco hbel
        obtain ⟨k, z, hk, rfl, hz, hd1, hco, hbel⟩ := hrel
        rcases k with _ | k
        · obtain rfl : z = -1 := by omega
          clear hz
          go_wp2_with (first
            | (go_at_call 44; refine (HT.out _ _ hd1).mono ?_; rintro e w4 ⟨rfl, hp⟩; replace hbel := hbel.trans (Below.mono hp hbel.size))
            | (go_at_call 42; refine (HR.out _).mono ?_; rintro e w5 ⟨rfl, hp⟩; replace hbel := hbel.trans (Below.mono hp hbel.size)))
          go_ret
          exact ⟨rfl, hp1.trans hbel⟩
        · obtain rfl : z = (k : Int) := by omega
          clear hz
          obtain ⟨hgk, hdk⟩ := hco.dig k (by omega)
          have o5 := hco.o5
          have o6 := hco.o6
          rw [HHL.out] at o6
          obtain ⟨b, hb⟩ : ∃ b, bl.getD k 0 = b := ⟨_, rfl⟩
          obtain ⟨h, hh⟩ : ∃ l, hs.getD k [] = l := ⟨_, rfl⟩
          have j5 : (bl.map P1)[k]? = some (.pointer (some ⟨b, 0, none⟩)) := by
            rw [← hb]; simp [List.getD_eq_getElem?_getD, List.getElem?_eq_getElem (show k < bl.length by omega), P1]
          have j6 : (hs.map S)[k]? = some (S h) := by
            have := HHL.out
            rw [← hh]; simp [List.getD_eq_getElem?_getD, List.getElem?_eq_getElem (show k < hs.length by omega)]
          have hhl := HSL.out k
          rw [hb] at hgk hdk
          rw [hh] at hdk hhl
          obtain ⟨q5, rfl, hc5⟩ := own_at o5 j5 (by omega)
          obtain ⟨q6, rfl, hc6⟩ := own_at o6 j6 (by omega)
          have C5 : ∀ w' : World, w'.ownsRow (w1.heap.size+1) 34 1 (.slice (some ⟨q5, 0, none⟩) bl.length c5) bl.length (bl.map P1) → w'.cell? ⟨q5, k, none⟩ = some (.pointer (some ⟨b, 0, none⟩)) := fun w' ho => by rw [ho.cellAt k (by omega)]; exact j5
          have C6 : ∀ w' : World, w'.ownsRow (w1.heap.size+1) 9 1 (.slice (some ⟨q6, 0, none⟩) bl.length c6) bl.length (hs.map S) → w'.cell? ⟨q6, k, none⟩ = some (S h) := fun w' ho => by rw [ho.cellAt k (by omega)]; exact j6
          have hk1 : (k : Int) < bl.length := by omega
          have hk2 : (0 : Int) ≤ k := by omega
          obtain ⟨d2, hd2⟩ : ∃ d, d = sha (h ++ [43]) := ⟨_, rfl⟩
          have hR2 := fun w => refSum (h ++ [43]) (by simp; omega) w
          have hT2 := fun w g => digestSum b (h ++ [43]) (by simp; omega) w g
          have hN2 : ∀ w, Dig w b (h ++ [43]) → Calls Try.prog 45 #[.pointer (some ⟨b, 0, none⟩)] w fun e w' => e = .returned (.int .i64 ((h.length : Int) + 1)) ∧ Pu w w' := by
            intro w hd
            refine (digestLen _ _ _ hd).mono ?_
            rintro e w' ⟨rfl, rfl⟩
            exact ⟨by simp, Pu.refl _⟩
          rw [← hd2] at hR2 hT2
          have z9 : ¬ (9223372036854775807 < h.length + 1) := by omega
          have z8 : IntKind.i64.wrap ((h.length : Int) + 1) = h.length + 1 := by rw [IntKind.wrap_i64]; omega
          have k43 : (ByteArray.mk #[43]) = bs [43] := rfl
          have hadd : h.length + [(43 : UInt8)].length ≤ 1000000 := by simp; omega
          have HR2 := Lib.hid hR2
          have HT2 := Lib.hid hT2
          have HN2 := Lib.hid hN2
          have HC5 := Lib.hid C5
          have HC6 := Lib.hid C6
          have HB := Lib.hid hb
          have HH := Lib.hid hh
          have HHL2 := Lib.hid hhl
          clear hR2 hT2 hN2 C5 C6 hd2 j5 j6 hb hh hhl o5 o6
          go_wp2_with (go_at_call 43; refine (digestAdd b h [43] hadd _ hdk).mono ?_; rintro e w4 ⟨rfl, hb4, hd4⟩; have hco4 := hco.butc (by rw [HB.out]; exact hb4); have hd14 := hd1.but hb4 (by omega); have hbel4 := But.below hbel hb4 (by omega) hbel.size; clear hco hd1 hbel hdk hc5 hc6)
          have o5 := hco4.o5
          have o6 := hco4.o6
          rw [HHL.out] at o6
          have cS : ∀ args w, (callFunc 44 args).run Try.prog w = .ok (.enter 44 args) w := fun args w => run_callFunc_body Try.func44 (by kernel_rfl) (by kernel_rfl) args w
          have cL : ∀ args w, (callFunc 45 args).run Try.prog w = .ok (.enter 45 args) w := fun args w => run_callFunc_body Try.func45 (by kernel_rfl) (by kernel_rfl) args w
          have cR : ∀ args w, (callFunc 42 args).run Try.prog w = .ok (.enter 42 args) w := fun args w => run_callFunc_body Try.func42 (by kernel_rfl) (by kernel_rfl) args w
          apply region_pu (Φs := (Is _ :: Is _ :: Is _ :: Is _ :: Is _ :: Is _ :: Is _ :: Is _ :: Is _ :: Is _ :: Is _ :: Is _ :: Is _ :: Is _ :: Is _ :: Is _ :: Is _ :: Is _ :: Is _ :: Is _ :: Is _ :: Is _ :: Is _ :: Is _ :: Is _ :: Is _ :: [])) (hm := by kernel_rfl) (hE := by kernel_rfl) (hD := by kernel_rfl) (hsize := by kernel_rfl)
          case hop =>
            refine ⟨?_, ?_, ?_, ?_, ?_, ?_, ?_, ?_, ?_, ?_, ?_, ?_, ?_, ?_, ?_, ?_, ?_, ?_, ?_, ?_, ?_, ?_, ?_, ?_, ?_, ?_, trivial⟩
            · intro a' w' hs hp he
              have e5 := hs 5 (by kernel_rfl)
              try simp [Is, Region.binds] at he
              exact op_val rfl (wanted_none rfl) (by first | (go_simp; done) | (go_simp; rfl) | (simp [execOp, Act.eval, go_sem, *]; done) | (simp [execOp, Act.eval, go_sem, *]; rfl)) rfl (Pu.refl _)
            · intro a' w' hs hp he
              have e8 := hs 8 (by kernel_rfl)
              try simp [Is, Region.binds] at he
              exact op_val rfl (wanted_none rfl) (by first | (go_simp; done) | (go_simp; rfl) | (simp [execOp, Act.eval, go_sem, *]; done) | (simp [execOp, Act.eval, go_sem, *]; rfl)) rfl (Pu.refl _)
            · intro a' w' hs hp he
              try simp [Is, Region.binds] at he
              exact op_val rfl (wanted_none rfl) (by first | (go_simp; done) | (go_simp; rfl) | (simp [execOp, Act.eval, go_sem, *]; done) | (simp [execOp, Act.eval, go_sem, *]; rfl)) rfl (Pu.refl _)
            · intro a' w' hs hp he
              try simp [Is, Region.binds] at he
              have hc := HC5.out _ (own_pu o5 hp); exact op_val rfl (wanted_none rfl) (by first | (go_simp; done) | (go_simp; rfl)) rfl (Pu.refl _)
            · intro a' w' hs hp he
              try simp [Is, Region.binds] at he
              exact op_callP (HT2.out _ (hd4.pu hp)) rfl (wanted_none rfl) (by first | (go_simp; done) | (go_simp; rfl)) (fun _ => rfl)
            · intro a' w' hs hp he
              have e6 := hs 6 (by kernel_rfl)
              try simp [Is, Region.binds] at he
              exact op_val rfl (wanted_none rfl) (by first | (go_simp; done) | (go_simp; rfl) | (simp [execOp, Act.eval, go_sem, *]; done) | (simp [execOp, Act.eval, go_sem, *]; rfl)) rfl (Pu.refl _)
            · intro a' w' hs hp he
              have e8 := hs 8 (by kernel_rfl)
              try simp [Is, Region.binds] at he
              exact op_val rfl (wanted_none rfl) (by first | (go_simp; done) | (go_simp; rfl) | (simp [execOp, Act.eval, go_sem, *]; done) | (simp [execOp, Act.eval, go_sem, *]; rfl)) rfl (Pu.refl _)
            · intro a' w' hs hp he
              try simp [Is, Region.binds] at he
              exact op_val rfl (wanted_none rfl) (by first | (go_simp; done) | (go_simp; rfl) | (simp [execOp, Act.eval, go_sem, *]; done) | (simp [execOp, Act.eval, go_sem, *]; rfl)) rfl (Pu.refl _)
            · intro a' w' hs hp he
              try simp [Is, Region.binds] at he
              have hc := HC6.out _ (own_pu o6 hp); exact op_val rfl (wanted_none rfl) (by first | (go_simp; done) | (go_simp; rfl)) rfl (Pu.refl _)
            · intro a' w' hs hp he
              try simp [Is, Region.binds] at he
              exact op_val rfl (wanted_none rfl) (by first | (go_simp; done) | (go_simp; rfl) | (simp [execOp, Act.eval, go_sem, *]; done) | (simp [execOp, Act.eval, go_sem, *]; rfl)) rfl (Pu.refl _)
            · intro a' w' hs hp he
              try simp [Is, Region.binds] at he
              exact op_callP (HR2.out _) rfl (wanted_none rfl) (by first | (go_simp; done) | (go_simp; rfl)) (fun _ => rfl)
            · intro a' w' hs hp he
              try simp [Is, Region.binds] at he
              exact op_val rfl (wanted_none rfl) (by first | (go_simp; done) | (go_simp; rfl) | (simp [execOp, Act.eval, go_sem, *]; done) | (simp [execOp, Act.eval, go_sem, *]; rfl)) rfl (Pu.refl _)
            · intro a' w' hs hp he
              try simp [Is, Region.binds] at he
              exact op_val rfl (wanted_none rfl) (by first | (go_simp; done) | (go_simp; rfl) | (simp [execOp, Act.eval, go_sem, *]; done) | (simp [execOp, Act.eval, go_sem, *]; rfl)) rfl (Pu.refl _)
            · intro a' w' hs hp he
              have e5 := hs 5 (by kernel_rfl)
              try simp [Is, Region.binds] at he
              first | exact op_skip rfl ((wanted_some rfl rfl (by first | (simp [he]; done) | (simp [he]; rfl))).trans rfl) rfl | exact op_val rfl ((wanted_some rfl rfl (by first | (simp [he]; done) | (simp [he]; rfl))).trans rfl) (by first | (go_simp; done) | (go_simp; rfl) | (simp [execOp, Act.eval, go_sem, *]; done) | (simp [execOp, Act.eval, go_sem, *]; rfl)) rfl (Pu.refl _)
            · intro a' w' hs hp he
              have e8 := hs 8 (by kernel_rfl)
              try simp [Is, Region.binds] at he
              first | exact op_skip rfl ((wanted_some rfl rfl (by first | (simp [he]; done) | (simp [he]; rfl))).trans rfl) rfl | exact op_val rfl ((wanted_some rfl rfl (by first | (simp [he]; done) | (simp [he]; rfl))).trans rfl) (by first | (go_simp; done) | (go_simp; rfl) | (simp [execOp, Act.eval, go_sem, *]; done) | (simp [execOp, Act.eval, go_sem, *]; rfl)) rfl (Pu.refl _)
            · intro a' w' hs hp he
              try simp [Is, Region.binds] at he
              first | exact op_skip rfl ((wanted_some rfl rfl (by first | (simp [he]; done) | (simp [he]; rfl))).trans rfl) rfl | exact op_val rfl ((wanted_some rfl rfl (by first | (simp [he]; done) | (simp [he]; rfl))).trans rfl) (by first | (go_simp; done) | (go_simp; rfl) | (simp [execOp, Act.eval, go_sem, *]; done) | (simp [execOp, Act.eval, go_sem, *]; rfl)) rfl (Pu.refl _)
            · intro a' w' hs hp he
              try simp [Is, Region.binds] at he
              have hc := HC5.out _ (own_pu o5 hp); exact op_val rfl ((wanted_some rfl rfl (by first | (simp [he]; done) | (simp [he]; rfl))).trans rfl) (by first | (go_simp; done) | (go_simp; rfl)) rfl (Pu.refl _)
            · intro a' w' hs hp he
              try simp [Is, Region.binds] at he
              exact op_callP (HN2.out _ (hd4.pu hp)) rfl ((wanted_some rfl rfl (by first | (simp [he]; done) | (simp [he]; rfl))).trans rfl) (by first | (go_simp; done) | (go_simp; rfl)) (fun _ => rfl)
            · intro a' w' hs hp he
              have e6 := hs 6 (by kernel_rfl)
              try simp [Is, Region.binds] at he
              first | exact op_skip rfl ((wanted_some rfl rfl (by first | (simp [he]; done) | (simp [he]; rfl))).trans rfl) rfl | exact op_val rfl ((wanted_some rfl rfl (by first | (simp [he]; done) | (simp [he]; rfl))).trans rfl) (by first | (go_simp; done) | (go_simp; rfl) | (simp [execOp, Act.eval, go_sem, *]; done) | (simp [execOp, Act.eval, go_sem, *]; rfl)) rfl (Pu.refl _)
            · intro a' w' hs hp he
              have e8 := hs 8 (by kernel_rfl)
              try simp [Is, Region.binds] at he
              first | exact op_skip rfl ((wanted_some rfl rfl (by first | (simp [he]; done) | (simp [he]; rfl))).trans rfl) rfl | exact op_val rfl ((wanted_some rfl rfl (by first | (simp [he]; done) | (simp [he]; rfl))).trans rfl) (by first | (go_simp; done) | (go_simp; rfl) | (simp [execOp, Act.eval, go_sem, *]; done) | (simp [execOp, Act.eval, go_sem, *]; rfl)) rfl (Pu.refl _)
            · intro a' w' hs hp he
              try simp [Is, Region.binds] at he
              first | exact op_skip rfl ((wanted_some rfl rfl (by first | (simp [he]; done) | (simp [he]; rfl))).trans rfl) rfl | exact op_val rfl ((wanted_some rfl rfl (by first | (simp [he]; done) | (simp [he]; rfl))).trans rfl) (by first | (go_simp; done) | (go_simp; rfl) | (simp [execOp, Act.eval, go_sem, *]; done) | (simp [execOp, Act.eval, go_sem, *]; rfl)) rfl (Pu.refl _)
            · intro a' w' hs hp he
              try simp [Is, Region.binds] at he
              have hc := HC6.out _ (own_pu o6 hp); exact op_val rfl ((wanted_some rfl rfl (by first | (simp [he]; done) | (simp [he]; rfl))).trans rfl) (by first | (go_simp; done) | (go_simp; rfl)) rfl (Pu.refl _)
            · intro a' w' hs hp he
              try simp [Is, Region.binds] at he
              first | exact op_skip rfl ((wanted_some rfl rfl (by first | (simp [he]; done) | (simp [he]; rfl))).trans rfl) rfl | exact op_val rfl ((wanted_some rfl rfl (by first | (simp [he]; done) | (simp [he]; rfl))).trans rfl) (by first | (go_simp; done) | (go_simp; rfl) | (simp [execOp, Act.eval, go_sem, *]; done) | (simp [execOp, Act.eval, go_sem, *]; rfl)) rfl (Pu.refl _)
            · intro a' w' hs hp he
              try simp [Is, Region.binds] at he
              first | exact op_skip rfl ((wanted_some rfl rfl (by first | (simp [he]; done) | (simp [he]; rfl))).trans rfl) rfl | exact op_val rfl ((wanted_some rfl rfl (by first | (simp [he]; done) | (simp [he]; rfl))).trans rfl) (by first | (go_simp; done) | (go_simp; rfl) | (simp [execOp, Act.eval, go_sem, *]; done) | (simp [execOp, Act.eval, go_sem, *]; rfl)) rfl (Pu.refl _)
            · intro a' w' hs hp he
              try simp [Is, Region.binds] at he
              first | exact op_skip rfl ((wanted_some rfl rfl (by first | (simp [he]; done) | (simp [he]; rfl))).trans rfl) rfl | exact op_val rfl ((wanted_some rfl rfl (by first | (simp [he]; done) | (simp [he]; rfl))).trans rfl) (by first | (go_simp; done) | (go_simp; rfl) | (simp [execOp, Act.eval, go_sem, *]; done) | (simp [execOp, Act.eval, go_sem, *]; rfl)) rfl (Pu.refl _)
            · intro a' w' hs hp he
              try simp [Is, Region.binds] at he
              exact op_val rfl (wanted_none rfl) (by first | (go_simp; done) | (go_simp; rfl) | (simp [execOp, Act.eval, go_sem, *]; done) | (simp [execOp, Act.eval, go_sem, *]; rfl)) rfl (Pu.refl _)
          case hend =>
            intro a' w' hdef hsz hs hp hall
            obtain ⟨r0, r1, r2, r3, r4, r5, r6, r7, r8, r9, r10, r11, r12, r13, r14, r15, r16, r17, r18, r19, r20, r21, r22, r23, r24, r25, -⟩ := hall
            have hA := agree_done (agree_step (agree_step (agree_step (agree_step (agree_step (agree_step (agree_step (agree_step (agree_step (agree_step (agree_step (agree_step (agree_step (agree_step (agree_step (agree_step (agree_step (agree_step (agree_step (agree_step (agree_step (agree_step (agree_step (agree_step (agree_step (agree_step (agree_init [69, 70, 71, 72, 73, 74, 75, 76, 77, 78, 79, 80, 81, 82, 83, 84, 85, 86, 87, 88, 89, 90, 91, 92, 93, 94] hsz hs (by kernel_rfl)) r0) r1) r2) r3) r4) r5) r6) r7) r8) r9) r10) r11) r12) r13) r14) r15) r16) r17) r18) r19) r20) r21) r22) r23) r24) r25)
            have ha := act_of hA hdef
            rw [ha]
            clear ha hA hs hsz hdef r0 r1 r2 r3 r4 r5 r6 r7 r8 r9 r10 r11 r12 r13 r14 r15 r16 r17 r18 r19 r20 r21 r22 r23 r24 r25 
            (try simp only [List.setIfInBounds_toArray])
            (try dsimp only [List.set_cons_zero, List.set_cons_succ])
            (try simp only [Exit.then])
            have hbel5 := hbel4.trans (Below.mono hp hbel4.size)
            go_wp2_with fail
            go_roundw
            case rel => exact ⟨k, (k : Int) - 1, by omega, by go_num, rfl, hd14.pu hp, hco4.pu hp, hbel5⟩
            case measure => simp [intOf]
end Go.Proofs.Ytdjbhbefghihcaa
