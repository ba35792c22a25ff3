/- The document's Sum. -/
import Derived.Test.YtoakccknimoogaaGreatU5
set_option linter.unusedSimpArgs false
set_option linter.unusedVariables false
set_option linter.unusedSimpArgs false
set_option linter.unusedVariables false
namespace Go.Esc
open Go Go.RowKit
theorem St.add_comm' (s t : St) : s.add t = t.add s := by simp only [St.add, BitVec.add_comm]
end Go.Esc
namespace Go.Proofs.YtoakccknimoogaaGreat
open Go.RowKit Go.Esc
theorem word_at (m : Bs) (a t : Nat) (ht : t < 16) : (m.take (a + 4 * t + 4)).drop (a + 4 * t) = ((m.drop a).take 64 |>.drop (4 * t)).take 4 := by
 rw [List.drop_take, List.drop_take, List.drop_drop, List.take_take]
 congr 1; omega
set_option maxRecDepth 100000 in
set_option maxHeartbeats 6400000 in
theorem refSum (l : Bs) (hl : l.length ≤ 900000) (w : World) :
 Calls Tryz.prog 158 #[S l] w fun e w' => e = .returned (S (sha l)) ∧ Pu w w' := by
 have k128 : (ByteArray.mk #[128]) = bs [128] := rfl
 have k0 : (ByteArray.mk #[0]) = bs [0] := rfl
 have z6 : ¬ (9223372036854775807 < l.length + 1) := by omega
 obtain ⟨r, hr⟩ : ∃ r, r = l.length % 64 := ⟨_, rfl⟩
 obtain ⟨z, hz⟩ : ∃ z, z = (119 - r) % 64 := ⟨_, rfl⟩
 have z4 : IntKind.u64.wrap (l.length : Int) = l.length := by rw [IntKind.wrap_u64]; omega
 have z5 : IntKind.u64.wrap ((l.length : Int) * 8) = l.length * 8 := by rw [IntKind.wrap_u64]; omega
 obtain ⟨p8, hp8⟩ : ∃ p, p = putB ((l.length : Int) * 8).toNat 8 := ⟨_, rfl⟩
 have hp8l : p8.length = 8 := by rw [hp8]; exact putB_length _ _
 have hpb : ∀ w, Calls Tryz.prog 26 #[.int .u64 ((l.length : Int) * 8), .int .i64 8] w fun e w' => e = .returned (S p8) ∧ Pu w w' := fun w => by
  have := refPutBig ((l.length : Int) * 8) 8 w (by omega) (by omega) (by omega) (by omega)
  rw [hp8]; exact this
 have HPB := Lib.hid hpb
 obtain ⟨m, hm⟩ : ∃ m, m = l ++ shaPad l.length := ⟨_, rfl⟩
 have hpad : (l ++ 128 :: List.replicate z 0) ++ p8 = m := by
  rw [hm, shaPad, ← hr, ← hz, hp8, show ((l.length : Int) * 8).toNat = l.length * 8 % 2 ^ 64 by omega]; simp
 have hml : m.length = l.length + 1 + z + 8 := by rw [← hpad]; simp [hp8l]; omega
 have hm64 : m.length % 64 = 0 := by omega
 have hsha : sha l = (blocks initS m (m.length / 64)).l.flatMap (fun w => putB w.toNat 4) := by rw [hm]; rfl
 have HSHA := Lib.hid hsha
 have HPAD := Lib.hid hpad
 have HR := Lib.hid hr
 have HZ := Lib.hid hz
 have HML := Lib.hid hml
 have hz64 : z < 64 := by omega
 have hmb : m.length ≤ 900100 := by omega
 clear hpb hp8 hm hpad hsha hr hz hml
 go_enter Tryz.func158, Tryz.ntmps158
 go_wp2_with fail
 generalize hW : World.alloc (World.alloc w (.cells _ _)) (.cells _ _) = w0
 have htb0 : Row w0 w.heap.size 108 (vs kTab) := by
  rw [← hW]; exact (Row.newAt w w.heap.size _ _ rfl (by kernel_rfl)).alloc _
 have hhb0 : Row w0 (w.heap.size + 1) 108 (vs initS.l) := by
  rw [← hW]; exact Row.newAt _ (w.heap.size + 1) _ _ (by simp) (by kernel_rfl)
 have hbel0 : Below w.heap.size w w0 := by
  rw [← hW]; exact ((Pu.refl w).alloc _).alloc _
 clear hW
 go_loop [5] (fun v => ∃ k : Nat, k ≤ z ∧ v = S (l ++ 128 :: List.replicate k 0)) (fun v => match v with | .string s => l.length + 1 + z - s.size | _ => 0)
 case atStart => exact ⟨0, by omega, rfl⟩
 case round =>
  obtain ⟨k, hk, rfl⟩ := hrel
  obtain ⟨cur, hcur⟩ : ∃ c, c = l ++ 128 :: List.replicate k 0 := ⟨_, rfl⟩
  have hcl : cur.length = l.length + 1 + k := by rw [hcur]; simp; omega
  have hcl2 : cur ++ [0] = l ++ 128 :: List.replicate (k+1) 0 := by rw [hcur, List.replicate_succ']; simp
  rw [← hcur]
  obtain ⟨q, hq⟩ : ∃ q, q = cur.length % 64 := ⟨_, rfl⟩
  have q1 : ((cur.length : Int)).tmod 64 = q := by rw [Int.tmod_eq_emod_of_nonneg (by omega)]; omega
  have z9 : ¬ (9223372036854775807 < cur.length + 1) := by omega
  have z10 : ¬ (9223372036854775807 < cur.length + p8.length) := by omega
  have hqq : q = 56 ↔ k = z := by have := HR.out; have := HZ.out; omega
  have HCL := Lib.hid hcl
  have HC2 := Lib.hid hcl2
  have HCUR := Lib.hid hcur
  by_cases hlt : k < z
  · have hne : ¬ ((q : Int) = 56) := by omega
    have hne2 : ((q : Int) == 56) = false := by simp; omega
    clear hcl hcl2 hq hcur hqq
    go_wp2_with fail
    go_round
    case rel => exact ⟨k + 1, by omega, by rw [HC2.out]⟩
    case measure => have := HCL.out; simp [bs_size]; omega
  · obtain rfl : k = z := by omega
    have heq : (q : Int) = 56 := by omega
    have hcm : cur ++ p8 = m := by rw [HCUR.out]; exact HPAD.out
    clear hcl hcl2 hq hcur hqq
    go_wp2_with (go_at_call 26; refine (HPB.out _).mono ?_; rintro e w1 ⟨rfl, hp1⟩)
    have htb1 := htb0.pu hp1
    have hhb1 := hhb0.pu hp1
    have hbel1 := hbel0.trans (Below.mono hp1 hbel0.size)
    clear hcm heq q1 z9 z10 htb0 hhb0 hbel0 hp1 z4 z5 z6
    go_loopw [6] (fun v wr => ∃ i : Nat, 64 * i ≤ m.length ∧ v = .int .i64 ((64 * i : Nat) : Int) ∧ Row wr w.heap.size 108 (vs kTab) ∧ Row wr (w.heap.size + 1) 108 (vs (blocks initS m i).l) ∧ Below w.heap.size w wr) (fun v _ => m.length - (intOf v).toNat)
    case atStart => exact ⟨0, by omega, rfl, htb1, hhb1, hbel1⟩
    case round =>
     clear htb1 hhb1 hbel1
     obtain ⟨i, hi, rfl, htb, hhb, hbel⟩ := hrel
     obtain ⟨a, ha⟩ : ∃ a, a = 64 * i := ⟨_, rfl⟩
     rw [← ha] at hi ⊢
     by_cases hlt : a < m.length
     · have ham : a + 64 ≤ m.length := by omega
       obtain ⟨b, hb⟩ : ∃ b, b = (m.drop a).take 64 := ⟨_, rfl⟩
       have hbl : b.length = 64 := by rw [hb]; simp; omega
       obtain ⟨s, hs⟩ : ∃ s, s = blocks initS m i := ⟨_, rfl⟩
       rw [← hs] at hhb
       have hnext : blocks initS m (i + 1) = comp s b := by rw [blocks_snoc, hs, hb, ha]
       have HB := Lib.hid hb
       have HS := Lib.hid hs
       have HNX := Lib.hid hnext
       have HA := Lib.hid ha
       have hai : (a : Int) < m.length := by omega
       clear hb hs hnext ha
       go_wp2_with fail
       have hw0 : Row (wr.alloc (.cells (List.replicate 64 (.int .u32 0)).toArray 225)) wr.heap.size 225 (vs (schedArr b 0)) := Row.newAt _ _ _ _ rfl rfl
       have hgr := hbel.size
       have hgr2 := hhb.lt
       obtain ⟨wb, hwb⟩ : ∃ k, k = wr.heap.size := ⟨_, rfl⟩
       have hw1 : w.heap.size + 1 < wb := by omega
       go_loopw [8] (fun v wq => ∃ t : Nat, t ≤ 64 ∧ v = .int .i64 (t : Int) ∧ Row wq w.heap.size 108 (vs kTab) ∧ Row wq (w.heap.size + 1) 108 (vs s.l) ∧ Row wq wb 225 (vs (schedArr b t)) ∧ Below w.heap.size w wq) (fun v _ => 64 - (intOf v).toNat)
       case atStart => exact ⟨0, by omega, rfl, htb.alloc _, hhb.alloc _, by rw [hwb]; exact hw0, hbel.alloc hgr _⟩
       case round =>
        rw [← hwb]
        clear hw0 htb hhb hbel hgr hgr2 hwb
        obtain ⟨t, ht, rfl, htb, hhb, hrow, hbel⟩ := hrel
        by_cases hltt : t < 64
        · have hnx := schedArr_set b t hltt
          have hl := schedArr_length b t ht
          by_cases h16 : t < 16
          · rw [if_pos h16] at hnx
            have hwa := word_at m a t h16
            rw [← HB.out] at hwa
            have hbg := fun w => refBig ((m.take (a + 4 * t + 4)).drop (a + 4 * t)) w (by simp; omega)
            rw [hwa] at hbg
            have HBG := Lib.hid hbg
            have HNX2 := Lib.hid hnx
            have HWA := Lib.hid hwa
            have j0 : IntKind.i64.wrap ((4 : Int) * t) = 4 * t := by rw [IntKind.wrap_i64]; omega
            have j1 : IntKind.i64.wrap ((a : Int) + 4 * t) = a + 4 * t := by rw [IntKind.wrap_i64]; omega
            have j2 : IntKind.i64.wrap ((a : Int) + 4 * t + 4) = a + 4 * t + 4 := by rw [IntKind.wrap_i64]; omega
            have j3 : (0 : Int) ≤ a + 4 * t := by omega
            have j4 : (a : Int) + 4 * t ≤ a + 4 * t + 4 := by omega
            have j5 : (a : Int) + 4 * t + 4 ≤ m.length := by omega
            have j6 : ((a : Int) + 4 * t).toNat = a + 4 * t := by omega
            have j7 : ((a : Int) + 4 * t + 4).toNat = a + 4 * t + 4 := by omega
            have j8 : (0 : Int) ≤ a + 4 * t + 4 := by omega
            have j9 : (0 : Int) ≤ t := by omega
            have j10 : (t : Int) < 64 := by omega
            have hc := Row.word hrow t (by omega)
            have hf := hrow.frozen t (by rw [vs_length]; omega)
            clear hbg hnx hwa
            go_wp2_with (go_at_call 35; (try rw [HWA.out]); refine (HBG.out _).mono ?_; rintro e w1 ⟨rfl, rfl⟩)
            go_roundw
            case rel =>
             refine ⟨t + 1, by omega, by go_num, htb.setOther _ _ (by simp; omega), hhb.setOther _ _ (by simp; omega), ?_, hbel.setCell (by simp; omega) _⟩
             have := hrow.set t (V (word b t))
             rw [vs_set, HNX2.out] at this
             exact this
            case measure => simp [intOf]; omega
          · have h16' : (16 : Int) ≤ t := by omega
            have e15 : ((t : Int) - 15).toNat = t - 15 := by omega
            have e2 : ((t : Int) - 2).toNat = t - 2 := by omega
            have e16 : ((t : Int) - 16).toNat = t - 16 := by omega
            have e7 : ((t : Int) - 7).toNat = t - 7 := by omega
            have f15 : (0 : Int) ≤ t - 15 := by omega
            have f2 : (0 : Int) ≤ t - 2 := by omega
            have f16 : (0 : Int) ≤ t - 16 := by omega
            have f7 : (0 : Int) ≤ t - 7 := by omega
            have g15 : (t : Int) - 15 < 64 := by omega
            have g2 : (t : Int) - 2 < 64 := by omega
            have g16 : (t : Int) - 16 < 64 := by omega
            have g7 : (t : Int) - 7 < 64 := by omega
            have i15 : IntKind.i64.wrap ((t : Int) - 15) = t - 15 := by rw [IntKind.wrap_i64]; omega
            have i2 : IntKind.i64.wrap ((t : Int) - 2) = t - 2 := by rw [IntKind.wrap_i64]; omega
            have i16 : IntKind.i64.wrap ((t : Int) - 16) = t - 16 := by rw [IntKind.wrap_i64]; omega
            have i7 : IntKind.i64.wrap ((t : Int) - 7) = t - 7 := by rw [IntKind.wrap_i64]; omega
            have h0t : (0 : Int) ≤ t := by omega
            have h64t : (t : Int) < 64 := by omega
            have q15 : (15 : Int) ≤ t := by omega
            have q2 : (2 : Int) ≤ t := by omega
            have q7 : (7 : Int) ≤ t := by omega
            have h16n : decide ((t : Int) < 16) = false := by simp; omega
            rw [if_neg h16] at hnx
            obtain ⟨xx, hxx⟩ : ∃ x, x = (schedArr b t).getD (t - 15) 0 := ⟨_, rfl⟩
            obtain ⟨yy, hyy⟩ : ∃ x, x = (schedArr b t).getD (t - 2) 0 := ⟨_, rfl⟩
            obtain ⟨aa, haa⟩ : ∃ x, x = (schedArr b t).getD (t - 16) 0 := ⟨_, rfl⟩
            obtain ⟨dd, hdd⟩ : ∃ x, x = (schedArr b t).getD (t - 7) 0 := ⟨_, rfl⟩
            have hnv : nextW (sched b t) t = aa + (rotr xx 7 ^^^ rotr xx 18 ^^^ xx >>> 3) + dd + (rotr yy 17 ^^^ rotr yy 19 ^^^ yy >>> 10) := by
             have hx := fun n (hn : n < t) => schedArr_get b t n hn
             simp only [nextW, ← hx (t - 15) (by omega), ← hx (t - 2) (by omega), ← hx (t - 16) (by omega), ← hx (t - 7) (by omega), hxx, hyy, haa, hdd]
            rw [hnv] at hnx
            have HNX2 := Lib.hid hnx
            have HXX := Lib.hid hxx
            have HYY := Lib.hid hyy
            have HAA := Lib.hid haa
            have HDD := Lib.hid hdd
            clear hnx hxx hyy haa hdd hnv
            go_wp2_with fail
            refine reg16 hltt (by omega) (fun w' hp => by have c := Row.word (hrow.pu hp) (t - 15) (by omega); rw [← HXX.out] at c; exact c) (fun w' hp => by have c := Row.word (hrow.pu hp) (t - 2) (by omega); rw [← HYY.out] at c; exact c) ?hend
            case hend =>
             intro w' hp
             (try simp only [Exit.inBlock, Exit.then])
             replace hrow := hrow.pu hp
             replace htb := htb.pu hp
             replace hhb := hhb.pu hp
             replace hbel := hbel.trans (Below.mono hp hbel.size)
             clear hp
             go_wp2_with (go_at_call 157; refine (refRight _ _ (by decide) (by decide) _).mono ?_; rintro e w1 ⟨rfl, rfl⟩)
             refine reg19 hltt (by omega) (fun w' hp => by have c := Row.word (hrow.pu hp) (t - 16) (by omega); rw [← HAA.out] at c; exact c) (fun w' hp => by have c := Row.word (hrow.pu hp) (t - 7) (by omega); rw [← HDD.out] at c; exact c) (fun w' hp => Row.word (hrow.pu hp) t (by omega)) (fun w' hp => (hrow.pu hp).frozen t (by rw [vs_length]; omega)) ?hend
             case hend =>
              intro w' hp
              (try simp only [Exit.inBlock, Exit.then])
              go_wp2_with fail
              go_roundw
              case rel =>
               replace hrow := hrow.pu hp
               replace htb := htb.pu hp
               replace hhb := hhb.pu hp
               replace hbel := hbel.trans (Below.mono hp hbel.size)
               refine ⟨t + 1, by omega, ?_, htb.setOther _ _ (by simp; omega), hhb.setOther _ _ (by simp; omega), ?_, hbel.setCell (by simp; omega) _⟩
               · go_num
               have := hrow.set t (V (aa + (rotr xx 7 ^^^ rotr xx 18 ^^^ xx >>> 3) + dd + (rotr yy 17 ^^^ rotr yy 19 ^^^ yy >>> 10)))
               rw [vs_set, HNX2.out] at this
               exact this
              case measure => simp [intOf]; omega
        · obtain rfl : t = 64 := by omega
          have harr : schedArr b 64 = sched b 64 := by simp [schedArr]
          rw [harr] at hrow
          obtain ⟨sc, hsc⟩ : ∃ sc, sc = sched b 64 := ⟨_, rfl⟩
          rw [← hsc] at hrow
          have hscl : sc.length = 64 := by rw [hsc, sched_length]
          have HSC := Lib.hid hsc
          have hh8 := hhb.cell'
          have hgt := hbel.size
          obtain ⟨ii, hi, hz0, hz1, hz2⟩ := info_parts infoW
          clear hsc harr
          go_wp2_with (refine wpList_append_mine rfl (.const (.slice none 0 0)) (.tmp 105) 181 rfl wr.heap.size 108 ii (.int .u32 0) 1 4 Tryz.underlying181 hi hz0 hz1 hz2 rfl (by decide) (.slice none 0 0) 0 [] (by rfl) (World.ownsRow_nil _ _ _ _) ⟨w.heap.size + 1, 0, none⟩ 8 8 (vs s.l) (by rfl) rfl (by intro j u hj; have := hh8 j (List.getElem?_eq_some_iff.1 hj).1; rw [show (⟨w.heap.size + 1, 0, none⟩ : Addr).add j = ⟨w.heap.size + 1, j, none⟩ by unfold Addr.add; split <;> simp_all, this]; exact hj) (by simp [vs, Value.oneCell']) (by unfold maxLen; omega) (by omega) (Nat.le_refl _) ?_; intro v2 w2 hown2 hgrow2)
          rw [List.nil_append] at hown2
          obtain ⟨vg, vcap, rfl, hvg, -⟩ := own_form hown2 (by omega)
          have hv2 := Row.own hown2
          have hpu2 : Pu wr w2 := ⟨hgrow2.os, hgrow2.tape, hgrow2.output, hgrow2.size, fun k hk => hgrow2.block k hk (by simp [Value.ownBlock])⟩
          have hgl := hrow.lt
          have htb2 := htb.pu hpu2
          have hhb2 := hhb.pu hpu2
          have hrow2 := hrow.pu hpu2
          have hbel2 := hbel.trans (Below.mono hpu2 hbel.size)
          have hvg2 : w.heap.size + 1 < vg := by omega
          clear hown2 hgrow2 hpu2 htb hhb hrow hbel hgl hh8 hgt hvg
          go_loopw [13, 14] (fun v i wq => ∃ (t g cap : Nat), t ≤ 64 ∧ v = .slice (some ⟨g, 0, none⟩) 8 cap ∧ i = .int .i64 (t : Int) ∧ w.heap.size + 1 < g ∧ Row wq g 108 (vs (rounds sc s t).l) ∧ Row wq w.heap.size 108 (vs kTab) ∧ Row wq (w.heap.size + 1) 108 (vs s.l) ∧ Row wq wb 225 (vs sc) ∧ Below w.heap.size w wq) (fun _ i _ => 64 - (intOf i).toNat)
          case atStart => exact ⟨0, vg, vcap, by omega, rfl, rfl, hvg2, hv2, htb2, hhb2, hrow2, hbel2⟩
          case round =>
           clear hv2 htb2 hhb2 hrow2 hbel2 hvg2
           obtain ⟨t, g, cap, ht, rfl, rfl, hgg, hx, htb, hhb, hrw, hbel⟩ := hrel
           by_cases hltt : t < 64
           · have hstep := rounds_succ sc s t
             obtain ⟨x, hxe⟩ : ∃ x, x = rounds sc s t := ⟨_, rfl⟩
             obtain ⟨kn, hkn⟩ : ∃ kn, kn = kTab.getD t 0 := ⟨_, rfl⟩
             obtain ⟨wn, hwn⟩ : ∃ wn, wn = sc.getD t 0 := ⟨_, rfl⟩
             rw [← hxe, ← hkn, ← hwn] at hstep
             rw [← hxe] at hx
             have HKN := Lib.hid hkn
             have HWN := Lib.hid hwn
             have HST := Lib.hid hstep
             have HXE := Lib.hid hxe
             have h0n : (0 : Int) ≤ t := by omega
             have h64n : (t : Int) < 64 := by omega
             clear hstep hxe hkn hwn
             go_wp2_with fail
             refine reg24 hx ?hend
             case hend =>
              intro w' hp
              (try simp only [Exit.inBlock, Exit.then])
              replace hx := hx.pu hp
              replace htb := htb.pu hp
              replace hhb := hhb.pu hp
              replace hrw := hrw.pu hp
              replace hbel := hbel.trans (Below.mono hp hbel.size)
              clear hp
              go_wp2_with fail
              refine reg25 hltt hx (fun w' hp => by have c := Row.word (htb.pu hp) t (by rw [kTab_length]; omega); rw [← HKN.out] at c; exact c) (fun w' hp => by have c := Row.word (hrw.pu hp) t (by omega); rw [← HWN.out] at c; exact c) ?hend
              case hend =>
               intro w' hp
               (try simp only [Exit.inBlock, Exit.then])
               replace hx := hx.pu hp
               replace htb := htb.pu hp
               replace hhb := hhb.pu hp
               replace hrw := hrw.pu hp
               replace hbel := hbel.trans (Below.mono hp hbel.size)
               clear hp
               go_wp2_with fail
               refine reg26 hx ?hend
               case hend =>
                intro w' hp
                (try simp only [Exit.inBlock, Exit.then])
                replace hx := hx.pu hp
                replace htb := htb.pu hp
                replace hhb := hhb.pu hp
                replace hrw := hrw.pu hp
                replace hbel := hbel.trans (Below.mono hp hbel.size)
                clear hp
                go_wp2_with fail
                have hbs := hbel.size
                have hhl := hrw.lt
                refine reg27 hx ?hend
                case hend =>
                 intro w' g26 cap26 row26 hge hp
                 (try simp only [Exit.inBlock, Exit.then])
                 replace htb := htb.pu hp
                 replace hhb := hhb.pu hp
                 replace hrw := hrw.pu hp
                 replace hbel := hbel.trans (Below.mono hp hbel.size)
                 rw [row27_step, ← HST.out] at row26
                 go_wp2_with fail
                 go_roundw
                 case rel =>
                  exact ⟨t + 1, g26, cap26, by omega, rfl, by go_num, by omega, row26, htb, hhb, hrw, hbel⟩
                 case measure => simp [intOf]; omega
           · obtain rfl : t = 64 := by omega
             obtain ⟨x, hxe⟩ : ∃ x, x = rounds sc s 64 := ⟨_, rfl⟩
             rw [← hxe] at hx
             have hfin : comp s b = s.add x := by rw [St.add_comm', hxe, HSC.out]; rfl
             have HFIN := Lib.hid hfin
             clear hxe hfin
             go_wp2_with fail
             go_loopw [19] (fun i wq => ∃ j : Nat, j ≤ 8 ∧ i = .int .i64 (j : Int) ∧ Row wq g 108 (vs x.l) ∧ Row wq w.heap.size 108 (vs kTab) ∧ Row wq (w.heap.size + 1) 108 (vs (addTo s.l x.l j)) ∧ Below w.heap.size w wq) (fun i _ => 8 - (intOf i).toNat)
             case atStart => exact ⟨0, by omega, rfl, hx, htb, hhb, hbel⟩
             case round =>
              clear hx htb hhb hbel hrw
              obtain ⟨j, hj, rfl, hx, htb, hhb, hbel⟩ := hrel
              by_cases hlj : j < 8
              · obtain ⟨xm, hxm⟩ : ∃ v, v = x.l.getD j 0 := ⟨_, rfl⟩
                obtain ⟨sm, hsm⟩ : ∃ v, v = s.l.getD j 0 := ⟨_, rfl⟩
                have hset := addTo_set s.l x.l j hlj
                rw [← hxm, ← hsm] at hset
                have HX := Lib.hid hxm
                have HSM := Lib.hid hsm
                have HSET := Lib.hid hset
                have h0j : (0 : Int) ≤ j := by omega
                have h8j : (j : Int) < 8 := by omega
                clear hxm hsm hset
                go_wp2_with fail
                refine reg31 hlj (fun w' hp => by have c := Row.word (hhb.pu hp) j (by rw [addTo_length]; omega); rw [addTo_get _ _ _ hlj, ← HSM.out] at c; exact c) (fun w' hp => by have c := Row.word (hx.pu hp) j (by show j < 8; omega); rw [← HX.out] at c; exact c) (fun w' hp => (hhb.pu hp).frozen j (by rw [vs_length, addTo_length]; omega)) ?hend
                case hend =>
                 intro w' hp
                 (try simp only [Exit.inBlock, Exit.then])
                 go_wp2_with fail
                 go_roundw
                 case rel =>
                  replace hx := hx.pu hp
                  replace htb := htb.pu hp
                  replace hhb := hhb.pu hp
                  replace hbel := hbel.trans (Below.mono hp hbel.size)
                  have hst := hhb.set j (V (sm + xm))
                  rw [vs_set, HSET.out] at hst
                  exact ⟨j + 1, by omega, by go_num, hx.setOther _ _ (by simp; omega), htb.setOther _ _ (by simp), hst, hbel.setCell (by simp) _⟩
                 case measure => simp [intOf]; omega
              · obtain rfl : j = 8 := by omega
                rw [addTo_all, ← HFIN.out] at hhb
                go_wp2_with fail
                go_roundw
                case rel =>
                 have hA := HA.out
                 refine ⟨i + 1, by omega, by rw [hA]; go_num, htb, ?_, hbel⟩
                 rw [HNX.out]; exact hhb
                case measure => simp [intOf]; omega
     · obtain rfl : a = m.length := by omega
       obtain ⟨x, hxe⟩ : ∃ x, x = blocks initS m i := ⟨_, rfl⟩
       have hsx : sha l = x.l.flatMap (fun w => putB w.toNat 4) := by
        rw [HSHA.out, hxe, show m.length / 64 = i by omega]
       rw [← hxe] at hhb
       have HSX := Lib.hid hsx
       clear hxe hsx ha
       go_wp2_with fail
       go_loopw [20, 21] (fun v i wq => ∃ j : Nat, j ≤ 8 ∧ v = S ((x.l.take j).flatMap fun w => putB w.toNat 4) ∧ i = .int .i64 (j : Int) ∧ Row wq (w.heap.size + 1) 108 (vs x.l) ∧ Below w.heap.size w wq) (fun _ i _ => 8 - (intOf i).toNat)
       case atStart => exact ⟨0, by omega, rfl, rfl, hhb, hbel⟩
       case round =>
        clear hhb hbel htb
        obtain ⟨j, hj, rfl, rfl, hhb, hbel⟩ := hrel
        by_cases hlj : j < 8
        · have hst := sha_take x j hlj
          obtain ⟨y, hy⟩ : ∃ y, y = x.l.getD j 0 := ⟨_, rfl⟩
          rw [← hy] at hst
          have hc := Row.word hhb j (by show j < 8; omega)
          rw [← hy] at hc
          obtain ⟨acc, hacc⟩ : ∃ a, a = ((x.l.take j).flatMap fun w => putB w.toNat 4) := ⟨_, rfl⟩
          have hal : acc.length = 4 * j := by rw [hacc, flat4, List.length_take, show x.l.length = 8 from rfl]; omega
          rw [← hacc] at hst ⊢
          have hwn := wd_nonneg y
          have hwl := wd_lt y
          obtain ⟨p4, hp4⟩ : ∃ p, p = putB (wd y).toNat 4 := ⟨_, rfl⟩
          have hp4l : p4.length = 4 := by rw [hp4]; exact putB_length _ _
          have hpb4 : ∀ w, Calls Tryz.prog 26 #[.int .u64 (wd y), .int .i64 4] w fun e w' => e = .returned (S p4) ∧ Pu w w' := fun w => by
           have := refPutBig (wd y) 4 w hwn (by omega) (by omega) (by omega)
           rw [hp4]; exact this
          have hst2 : acc ++ p4 = (x.l.take (j+1)).flatMap (fun w => putB w.toNat 4) := by rw [hst, hp4, wd_toNat]
          have hz9 : ¬ (9223372036854775807 < acc.length + p4.length) := by omega
          have HP4 := Lib.hid hpb4
          have HST := Lib.hid hst2
          have HACC := Lib.hid hacc
          have h0j : (0 : Int) ≤ j := by omega
          have h8j : (j : Int) < 8 := by omega
          clear hst hacc hy hpb4 hp4 hst2
          go_wp2_with (go_at_call 26; refine (HP4.out _).mono ?_; rintro e w3 ⟨rfl, hp3⟩; replace hhb := hhb.pu hp3; replace hbel := hbel.trans (Below.mono hp3 hbel.size))
          go_roundw
          case rel => exact ⟨j + 1, by omega, by rw [← HST.out], by go_num, hhb, hbel⟩
          case measure => simp [intOf]; omega
        · obtain rfl : j = 8 := by omega
          rw [show x.l.take 8 = x.l from rfl]
          obtain ⟨acc, hacc⟩ : ∃ a, a = (x.l.flatMap fun w => putB w.toNat 4) := ⟨_, rfl⟩
          rw [← hacc]
          have HACC := Lib.hid hacc
          clear hacc
          go_wp2_with fail
          go_ret
          exact ⟨by rw [HSX.out, ← HACC.out]; rfl, hbel⟩
end Go.Proofs.YtoakccknimoogaaGreat
