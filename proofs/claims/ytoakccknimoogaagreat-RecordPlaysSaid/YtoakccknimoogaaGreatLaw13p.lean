/- Chapter 13: RecordPlays. -/
import Derived.Test.YtoakccknimoogaaGreatV3
import Derived.Test.YtoakccknimoogaaGreatRefRecord
import Derived.Test.YtoakccknimoogaaGreatReg13p
import Derived.Test.YtoakccknimoogaaGreatOps5
import Derived.Deep.DeepCutAuto
import Derived.Deep.CutBlock
set_option linter.unusedSimpArgs false
set_option linter.unusedVariables false
namespace Go.Proofs.YtoakccknimoogaaGreat
open Go.RowKit Go.Esc
set_option maxRecDepth 100000 in
set_option maxHeartbeats 8000000 in
theorem plays_main {w : World} (k0 : Bs) (hk0 : k0.length ≤ 9223372036854775807) (a : Option Addr) (len cap : Nat) (L : List OpW) (hL : Ops5 w a len L) (g1 : len ≤ 60) :
 Calls Tryz.prog 3 #[S k0, .slice a len cap] w fun e w' => e = .returned (.bool true) ∧ Pu w w' := by
 have q1 : ¬ (60 : Int) < len := by omega
 have hi5 : (Tryz.prog.info? 45).map (·.size) = some 5 := by kernel_rfl
 obtain ⟨is0, his, hsz, hss, hsb⟩ := info_parts infoT
 have hf1 := fun w => fillAny k0 32 hk0 (by decide) w
 have hl1 := fillL_length k0 32
 obtain ⟨key, he1⟩ : ∃ k, k = fillL k0 32 := ⟨_, rfl⟩
 rw [← he1] at hf1 hl1
 have HF1 := Lib.hid hf1
 have HKL := Lib.hid hl1
 have hln := hL.none
 have hll := hL.length
 have HLN := Lib.hid hln
 have HLL := Lib.hid hll
 have HL := Lib.hid hL
 have T1 := Lib.hid True.intro
 clear hL hf1 hl1 he1 hln hll hk0
 go_enter Tryz.func3, Tryz.ntmps3
 go_wp2_with (first
  | (go_at_call 5; refine (alive13 _).mono ?_; rintro e w1 ⟨rfl, hp1⟩)
  | (go_at_call 6; refine (HF1.out _).mono ?_; rintro e w2 ⟨rfl, rfl⟩)
  | (go_at_call 7; refine (newOut key HKL.out _).mono ?_; rintro e w3 ⟨ob, rfl, ho3, hp3⟩)
  | (go_at_call 8; refine (newIn key HKL.out _).mono ?_; rintro e w4 ⟨ib, rfl, hi4, hp4⟩
     obtain ⟨Go0, Gi0, oi4⟩ : ∃ Go Gi, OI Go Gi w w4 ob ib key key 0 0 0 (inOrd 0) := ⟨_, _, OI.start (hp1.trans hp3) hp1 hp3 ho3 hi4 hp4⟩
     have hz4 := oi4.since.size
     have OI4 := Lib.hid oi4
     clear oi4 ho3 hi4))
 have hp5 := (Pu.refl w4).alloc (.cells #[S key, .int .i64 0, .slice none 0 0, .slice none 0 0] 33)
 have cr0 : Cross Go0 Gi0 (Gw (fun _ => False) w4 (w4.alloc (.cells #[S key, .int .i64 0, .slice none 0 0, .slice none 0 0] 33))) w (w4.alloc (.cells #[S key, .int .i64 0, .slice none 0 0, .slice none 0 0] 33)) ob ib w4.heap.size key key 0 0 0 (inOrd 0) (inOrd 0) := by
  refine ⟨OI4.out.pu hp5, ⟨[], .slice none 0 0, .slice none 0 0, ⟨Row.newAt _ _ _ _ (by simp) rfl, World.ownsRow_nil _ _ _ _, World.ownsRow_nil _ _ _ _, .inr ⟨by omega, by simp⟩, fun g h => (by cases h), fun g h => (by cases h), (by intro h; cases h), (by intro h; cases h), Gw.dom (fun _ h => h.elim) hp5.size, fun g hg => ?_⟩, Lk.nil, rfl⟩, fun g hg hh => ?_⟩
  · rcases hg with h1 | h1
    · exact h1.elim
    · omega
  · rcases hg with h1 | h1
    · exact h1
    · rcases hh with h2 | h2
      · have := OI4.out.o.dom _ h2; omega
      · have := OI4.out.i.dom _ h2; omega
 have hbb : (w4.alloc (.cells #[S key, .int .i64 0, .slice none 0 0, .slice none 0 0] 33)).heap.size = w4.heap.size + 1 := by simp
 have pl0 := Pl.start cr0 hbb
 obtain ⟨ir, hir⟩ : ∃ z, z = w4.heap.size := ⟨_, rfl⟩
 rw [← hir] at pl0
 obtain ⟨bb, hbbe⟩ : ∃ z, z = ir + 1 := ⟨_, rfl⟩
 rw [← hbbe] at pl0
 have PL0 := Lib.hid pl0
 clear cr0 hp5 hbb pl0
 rw [← hir, ← hbbe]
 clear hir hbbe
 go_loopw [11, 8, 9, 12, 13, 14, 15, 16, 17, 18, 19, 20, 70, 103] (fun x11 x8 x9 _ _ _ _ _ _ _ _ _ _ _ wr => ∃ (k n m : Nat) (Go Gi Gr : Nat → Prop) (s : InS) (xs : List Value) (v2 v3 : Value) (ss cs : List Value) (ls : List (List Bs)) (lies : List Bs), k ≤ len ∧ n ≤ k ∧ m ≤ k ∧ ss.length ≤ k ∧ lies.length = n ∧ s.c ≤ m ∧ x11 = .int .i64 (k : Int) ∧ x9 = .int .i64 (n : Int) ∧ Pl Go Gi Gr w wr ob ib ir bb key n m s s xs v2 v3 x8 ss cs ls lies) (fun x11 _ _ _ _ _ _ _ _ _ _ _ _ _ _ => len - (intOf x11).toNat)
 case atStart => exact ⟨0, 0, 0, _, _, _, inOrd 0, xsT, _, _, [], [], [], [], by omega, by omega, by omega, Nat.le_refl _, rfl, Nat.le_refl _, rfl, rfl, PL0.out⟩
 case round =>
  obtain ⟨k, n, m, Go, Gi, Gr, s, xs, v2, v3, ss, cs, ls, lies, hk, hnk, hmk, hsk, hlie, hsc, rfl, rfl, P⟩ := hrel
  clear PL0 OI4 hz4 hp1 hp3 hp4
  by_cases hlt : k < len
  rotate_left
  · obtain rfl : k = len := by omega
    have hnlt : decide ((k : Int) < k) = false := by simp
    have hAP : Calls Tryz.prog 18 #[.pointer (some ⟨bb, 0, none⟩)] wr fun e w' => e = .returned (.bool true) ∧ Pu w w' := by
     by_cases h0 : ss = []
     · refine (bookApart0 bb _ xs wr P.row P.nils.1 (P.nl h0)).mono ?_
       rintro e w' ⟨rfl, hw⟩
       exact ⟨rfl, by rw [hw]; exact P.c.oi.since⟩
     · refine (bookApart bb _ xs v2 v3 ss cs ls wr P.row P.nils P.x0 P.x1 P.kp (by rcases ss with _ | _; exact absurd rfl h0; simp) (by omega) (fun l hl => by have := P.ll l hl; omega)).mono ?_
       rintro e w' ⟨rfl, hB⟩
       exact ⟨rfl, Below.trans P.c.oi.since (Below.mono hB P.bw)⟩
    have HAP := Lib.hid hAP
    clear hAP P
    as_aux_lemma =>
     go_wp2_with (first
      | (go_at_call 9; refine (sealNil [120] _).mono ?_; rintro e w7 ⟨rfl, hw⟩; rw [hw]; clear hw)
      | (go_at_call 12; refine (openNil [120] _).mono ?_; rintro e w7 ⟨rfl, hw⟩; rw [hw]; clear hw)
      | (go_at_call 11; refine (outNextNil _).mono ?_; rintro e w7 ⟨rfl, hw⟩; rw [hw]; clear hw)
      | (go_at_call 16; refine (inNextNil _).mono ?_; rintro e w7 ⟨rfl, hw⟩; rw [hw]; clear hw)
      | (go_at_call 17; refine (inWaitsNil _).mono ?_; rintro e w7 ⟨rfl, hw⟩; rw [hw]; clear hw)
      | (go_at_call 18; refine HAP.out.mono ?_; rintro e w8 ⟨rfl, hB⟩))
     go_ret
     exact ⟨rfl, hB⟩
  rcases a with _ | xa
  · have := HLN.out rfl; omega
  have hkL : k < L.length := by have := HLL.out; omega
  have hok := HL.out.ok _ (List.getElem_mem hkL)
  have hld := fun w' (hp : Pu w w') => (HL.out.keep hp).load (P := Tryz.prog) k hkL 45 Tryz.underlying45 rfl hi5
  obtain ⟨o, ho⟩ : ∃ o, o = L[k] := ⟨_, rfl⟩
  rw [← ho] at hok
  simp only [← ho] at hld
  obtain ⟨kd, nw, ps, vl, bd⟩ := o
  obtain ⟨-, -, -, hvl, hbl⟩ := hok
  simp only at hvl hbl
  have hld' : ∀ w', Pu w w' → (loadVar 45 (xa.add (k * 5))).run Tryz.prog w' = .ok (.agg #[.int .i64 kd, .int .i64 nw, .int .i64 ps, .int .u8 vl, S bd]) w' := hld
  have HLD := Lib.hid hld'
  obtain ⟨aL, qL, rfl, -⟩ := own_slice P.lie
  rw [hlie] at P
  have HP := Lib.hid P
  have HLIE := Lib.hid hlie
  obtain ⟨y, rfl⟩ : ∃ c : UInt8, vl = (c.toNat : Int) := by
   have : 0 ≤ vl ∧ vl ≤ 255 := by
    simp [Lit.wf, IntKind.min, IntKind.max, IntKind.signed, IntKind.bits] at hvl
    omega
   exact ⟨UInt8.ofNat vl.toNat, by simp; omega⟩
  unfold maxLen at hbl
  have hlti : (k : Int) < len := by omega
  have hk0 : (0 : Int) ≤ k := by omega
  rw [hlie]
  clear hld hld' ho hvl P hkL hlie
  by_cases hbig : 600 < bd.length
  · have q9 : (600 : Int) < bd.length := by omega
    as_aux_lemma =>
     go_wp2_with (first
      | (refine wpList_load_at5 rfl 45 (.tmp 60) rfl (xa.add (k * 5)) _ (by first | rfl | simp [Act.eval]) (HLD.out _ HP.out.c.oi.since) ?_)
      | (refine wpList_store_part rfl 45 (.tmp 12) (.tmp 61) rfl wr.heap.size 0 [.int .i64 kd, .int .i64 nw, .int .i64 ps, .int .u8 (y.toNat : Int), S bd] (by rfl) (by rfl) (Row.newAt wr wr.heap.size _ _ rfl rfl) hi5 (by simp) (by simp [Value.oneCell']) ?_; intro w5 hr5 hch5
         have hp5 : Pu wr w5 := hch5.below ((Pu.refl wr).alloc _) (Nat.le_refl _)
         rw [splice_all (by rfl)] at hr5
         obtain ⟨d0, d1, d2, d3, d4⟩ := row_cells5 hr5
         clear hch5))
     go_ret
     exact ⟨rfl, HP.out.c.oi.since.trans hp5⟩
  have q9 : ¬ (600 : Int) < bd.length := by omega
  go_upto_block 2 with (first
   | (refine wpList_load_at5 rfl 45 (.tmp 60) rfl (xa.add (k * 5)) _ (by first | rfl | simp [Act.eval]) (HLD.out _ HP.out.c.oi.since) ?_)
   | (refine wpList_store_part rfl 45 (.tmp 12) (.tmp 61) rfl wr.heap.size 0 [.int .i64 kd, .int .i64 nw, .int .i64 ps, .int .u8 (y.toNat : Int), S bd] (by rfl) (by rfl) (Row.newAt wr wr.heap.size _ _ rfl rfl) hi5 (by simp) (by simp [Value.oneCell']) ?_; intro w5 hr5 hch5
      have hp5 : Pu wr w5 := hch5.below ((Pu.refl wr).alloc _) (Nat.le_refl _)
      rw [splice_all (by rfl)] at hr5
      obtain ⟨d0, d1, d2, d3, d4⟩ := row_cells5 hr5
      clear hch5))
  have P5 := HP.out.pu hp5
  have HWR := Lib.hid (fun g (h : Go g) => HP.out.c.oi.o.dom g h)
  go_cut [8, 9, 13, 14, 15, 16, 70, 103] (fun x8 x9 xb _ _ _ _ _ wx => ∃ b : Bs, x8 = .slice aL n qL ∧ x9 = .int .i64 (n : Int) ∧ xb = S b ∧ b.length ≤ 3000 ∧ Pu w5 wx)
  case first =>
   by_cases hk1 : kd = 1
   · subst hk1
     obtain ⟨pp, hpp⟩ := padL_short (p := bd) (by omega)
     have hrl := recL_le key n hpp
     have hrlen := recL_length key n bd
     rw [hpp] at hrlen
     simp only [Option.getD_some] at hrlen
     have hrr := fun w => refRecord key HKL.out n (by omega) bd pp hpp (by omega) (by omega) w
     obtain ⟨r, hr⟩ : ∃ r, r = recL key n bd := ⟨_, rfl⟩
     rw [← hr] at hrl hrlen
     simp only [← hr] at hrr
     have w1 : IntKind.i64.wrap ((n : Int) + 1) = (n : Int) + 1 := by rw [IntKind.wrap_i64]; omega
     have w2 : ((n + 1 : Nat) : Int) = (n : Int) + 1 := by omega
     have HR := Lib.hid hr
     have HPP := Lib.hid hpp
     have HRR := Lib.hid hrr
     have HRL := Lib.hid hrl
     clear hr hpp hrr hrl hrlen
     as_aux_lemma =>
      go_wp2_with (first
       | (go_at_call 9; refine (plSeal P5 HKL.out bd _ HPP.out (by omega) (by omega)).mono ?_; rw [← HR.out]; rintro e w7 ⟨rfl, P7, hc7⟩
          have hr7 := hc7.row hr5 (fun h => by have := HWR.out _ h; omega)
          obtain ⟨d0, d1, d2, d3, d4⟩ := row_cells5 hr7)
       | (go_at_call 10; refine (HRR.out _).mono ?_; rintro e w8 ⟨rfl, hp8⟩)
       | (go_at_call 11; refine (outNext (P7.pu hp8).c.oi.o).mono ?_; rintro e w9 ⟨rfl, hw⟩; rw [hw, w2]; clear hw)
       | (at_builtin; refine wpList_append_own_at _ rfl _ _ 31 rfl w.heap.size 9 is0 (.string ⟨#[]⟩) 1 16 Tryz.underlying31 his hsz hss hsb rfl (by decide) (.slice aL n qL) n _ rfl (((HLIE.out ▸ (P7.pu hp8).lie)).alloc _) ⟨w8.heap.size, 0, none⟩ 1 1 [S r] rfl rfl (cell_one_newT _ _ _) (by simp [Value.oneCell']) (by unfold maxLen; omega) (by omega) (by have := (P7.pu hp8).c.oi.since.size; simp; omega) ?_; intro v10 w10 ho10 hg10 _ hat10))
      go_roundw
      case rel => exact ⟨k + 1, n + 1, m, _, _, _, s, xs, v2, v3, ss, cs, ls, lies ++ [r], by omega, by omega, by omega, by omega, by have := HLIE.out; simp; omega, by omega, by go_num, by go_num, ((P7.pu hp8).pu ((Pu.refl w8).alloc _)).push ⟨by have := HRL.out; omega, by have := HRL.out; omega⟩ (HLIE.out.symm ▸ ho10) hg10 hat10⟩
      case measure => simp [intOf]; omega
   have hk1' : (kd == 1) = false := by simpa using hk1
   by_cases hk23 : kd = 2 ∨ kd = 3
   rotate_left
   · have hk2' : (kd == 2) = false := by simp; omega
     have hk3' : (kd == 3) = false := by simp; omega
     clear hk23 hk1
     as_aux_lemma =>
      go_wp2_with fail
      go_meet
      exact ⟨bd, rfl, rfl, rfl, by omega, Pu.refl _⟩
   by_cases hn0 : n = 0
   · obtain rfl := hn0
     rcases hk23 with hk2 | hk2
     · subst hk2
       as_aux_lemma =>
        go_wp2_with fail
        go_roundw
        case rel => exact ⟨k + 1, 0, m, _, _, _, s, xs, v2, v3, ss, cs, ls, lies, by omega, by omega, by omega, by omega, HLIE.out, by omega, by go_num, by go_num, P5⟩
        case measure => simp [intOf]; omega
     · subst hk2
       as_aux_lemma =>
        go_wp2_with fail
        go_roundw
        case rel => exact ⟨k + 1, 0, m, _, _, _, s, xs, v2, v3, ss, cs, ls, lies, by omega, by omega, by omega, by omega, HLIE.out, by omega, by go_num, by go_num, P5⟩
        case measure => simp [intOf]; omega
   have hlo := P5.lie
   rw [HLIE.out] at hlo
   obtain ⟨gL, cL, e1, -, hgl⟩ := own_form hlo (by omega)
   cases e1
   obtain ⟨i, r, f1, -, -, f2, f3, hi⟩ := index_ofP nw n (by omega) (by omega)
   have hil : i < lies.length := by have := HLIE.out; omega
   have hcl := hlo.cellAt i (by omega)
   rw [List.getElem?_map, List.getElem?_eq_getElem hil] at hcl
   have htl := P5.ml _ (List.getElem_mem hil)
   obtain ⟨t, ht⟩ : ∃ t, t = lies[i] := ⟨_, rfl⟩
   rw [← ht] at hcl htl
   simp only [Option.map_some] at hcl
   have i0 : (0 : Int) ≤ i := by omega
   have i1 : (i : Int) < n := by omega
   have l0 : ¬ (n : Int) = 0 := by omega
   have l1 : ((n : Int) == 0) = false := by simp; omega
   clear ht hlo hgl
   rcases hk23 with hk2 | hk2
   · subst hk2
     as_aux_lemma =>
      go_wp2_with fail
      go_meet
      exact ⟨t, rfl, rfl, rfl, htl.2, Pu.refl _⟩
   · subst hk2
     obtain ⟨j, r', e1, -, -, e2, e3, hj⟩ := index_ofP ps t.length htl.1 (by omega)
     obtain ⟨xx, hxx⟩ : ∃ x, t[j]'hj = x := ⟨_, rfl⟩
     obtain ⟨v, hv⟩ : ∃ v, v = xx ^^^ y := ⟨_, rfl⟩
     have hxv : _root_.Go.bits .xor .u8 (xx.toNat : Int) (y.toNat : Int) = (v.toNat : Int) := by rw [xor_val, hv]
     obtain ⟨m2, hm2⟩ : ∃ m2, m2 = t.set j v := ⟨_, rfl⟩
     have hm2l : m2.length = t.length := by rw [hm2, List.length_set]
     have hti : t.length ≤ 3000 := htl.2
     have ht0 : 0 < t.length := htl.1
     have HXX := Lib.hid hxx
     have HSET := Lib.hid hm2.symm
     have HM2 := Lib.hid hm2l
     have HXV := Lib.hid hxv
     have E1 := Lib.hid e1
     have E2 := Lib.hid e2
     have E3 := Lib.hid e3
     clear hxx hv hm2 hm2l hxv e1 e2 e3 htl
     as_aux_lemma =>
      go_wp2_with (first
       | (refine wpList_bytes _ rfl (.tmp 126) 9 51 5 rfl t (by first | rfl | simp [Act.eval]) Tryz.underlying9 Tryz.underlying51 Tryz.underlying5 ?_; intro w7 cp hrow hpu hcap
          have hr7 := hr5.pu hpu))
      have g1 : ¬ (t.length : Int) = 0 := by omega
      have g2 : ¬ t.length = 0 := by omega
      have g3 : ((t.length : Int) == 0) = false := by rw [beq_eq_false_iff_ne]; exact g1
      have g4 : (0 : Int) ≤ j := by omega
      have g5 : (j : Int) < t.length := by omega
      have hd2 := fun w' (hp : Pu w7 w') => (row_cells5 (hr7.pu hp)).2.2.1
      have hd3 := fun w' (hp : Pu w7 w') => (row_cells5 (hr7.pu hp)).2.2.2.1
      refine regR31 hd2 hd3 hrow rfl hj HXX.out HXV.out g1 g2 g3 E1.out E2.out E3.out g4 g5 ?hend
      case hend =>
       intro o1 o2 o3 o4 o5 o6 o7 o8 o9 o10 o11 o12 o13 o14 o15 o16 o17 o18 w8 hp8
       (try simp only [Exit.inBlock, Exit.then])
       have hrw := (hrow.pu hp8).set j (.int .u8 (v.toNat : Int))
       rw [cells_set, HSET.out] at hrw
       have hcv := Row.conv (P := Tryz.prog) (cap := cp) (n := t.length) 51 9 hrw HM2.out.symm Tryz.underlying51 Tryz.underlying5 Tryz.underlying9
       have hp9 := (Pu.trans hpu hp8).setCell (p := ⟨w5.heap.size, j, none⟩) (Nat.le_refl _) (.int .u8 (v.toNat : Int))
       go_wp2_with fail
       go_meet
       exact ⟨m2, rfl, rfl, rfl, by have := HM2.out; omega, hp9⟩
  case rest =>
   obtain ⟨b, rfl, rfl, rfl, hb, hpc⟩ := hcut
   have P6 := P5.pu hpc
   have hsok := P6.c.oi.i.ok
   obtain ⟨o, hoe⟩ : ∃ o, o = openS key s b := ⟨_, rfl⟩
   have hoc := openS_c key s b
   have hol := openS_out key s b hsok
   rw [← hoe] at hoc hol
   obtain ⟨f, told, s2⟩ := o
   simp only at hoc hol
   have HO := Lib.hid hoe
   have HOK := Lib.hid hsok
   clear hoe hsok d0 d1 d2 d3 d4 hr5 P5 HP
   as_aux_lemma =>
    go_wp2_with (first
     | (go_at_call 12; refine (plOpen P6 HKL.out b (by omega) (by omega)).mono ?_; rw [← HO.out]; rintro e w7 ⟨v7, Gi7, rfl, ho7, P7, fr7, hv7⟩
        change World.ownsRow _ _ _ 1 v7 told.length _ at ho7
        change Pl _ _ _ _ _ _ _ _ _ _ _ _ s2 _ _ _ _ _ _ _ _ _ at P7)
     | (go_at_call 13; refine (plRef P7 HOK.out (by omega) HKL.out b (by omega) ho7 fr7 hv7).mono ?_; rw [← HO.out]; rintro e w8 ⟨v8, Gr8, rfl, ho8, P8, ho7', fr8, hlt8, hz8⟩
        change World.ownsRow _ _ _ 1 v8 told.length _ at ho8
        change Pl _ _ _ _ _ _ _ _ _ _ _ _ s2 s2 _ _ _ _ _ _ _ _ at P8)
     | (go_at_call 14; refine (plKeep P8 ho7' fr8 hol (by omega)).mono ?_; rintro e w9 ⟨rfl, xs9, v29, v39, c9, P9, hc9⟩))
    have ho8' := own_cg ho8 hc9 (fun g hg hh => by have := hlt8 g hh; have := (ho8.lt g hg).1; omega)
    have ho7'' := P9.kp.s2 ss.length v7 told (by simp) (by rw [P8.kp.hl]; simp)
    obtain ⟨vt, aq, cq, hrw⟩ := P9.c.r.partsP
    have hSa : ∀ w', Pu w9 w' → Calls Tryz.prog 15 #[v7, v8] w' fun e w'' => e = .returned (.bool true) ∧ Pu w' w'' := fun w' hp => (sameTexts told told.length rfl (own_below ho7'' hp) (own_below ho8' hp) (by omega)).mono (by rintro e w' ⟨rfl, h⟩; exact ⟨rfl, h⟩)
    have hNx := fun w' (hp : Pu w9 w') => inNext ((P9.c.pu hp).oi.i)
    have hWa := fun w' (hp : Pu w9 w') => inWaits ((P9.c.pu hp).oi.i)
    have hc1 : ∀ w', Pu w9 w' → w'.cell? ⟨ir, 1, none⟩ = some (.int .i64 (s2.n : Int)) := fun w' hp => by
     have c1 := (hrw.pu hp).cell' 1 (by simp)
     simpa using c1
    have hc2 : ∀ w', Pu w9 w' → w'.cell? ⟨ir, 2, none⟩ = some (.slice aq s2.c cq) := fun w' hp => by
     have c1 := (hrw.pu hp).cell' 2 (by simp)
     simpa using c1
    refine regR36 hSa hNx hWa hc1 hc2 ?hend
    case hend =>
     intro p1 p2 p3 p4 p5 p6 p7 p8 p9 p10 p11 p12 p13 p14 p15 p16 p17 p18 p19 p20 p21 p22 p23 p24 p25 p26 p27 w10 hp10
     (try simp only [Exit.inBlock, Exit.then])
     go_wp2_with fail
     go_roundw
     case rel => exact ⟨k + 1, n, m + 1, _, _, _, s2, xs9, v29, v39, ss ++ [v7], cs ++ [c9], ls ++ [told], lies, by omega, by omega, by omega, by simp; omega, HLIE.out, by omega, by go_num, rfl, P9.pu hp10⟩
     case measure => simp [intOf]; omega
set_option maxRecDepth 100000 in
theorem recordPlays_walk {w : World} (s : ByteArray) (hs : s.size ≤ maxLen) (a : Option Addr) (len cap : Nat) (hz : IsOps5 w a len cap) :
 Calls Tryz.prog 3 #[.string s, .slice a len cap] w fun e w' => e = .returned (.bool true) ∧ Pu w w' := by
 obtain ⟨k0, rfl⟩ : ∃ a, s = bs a := ⟨_, bs_eta s⟩
 have hk0 : k0.length ≤ 9223372036854775807 := by rw [bs_size] at hs; unfold maxLen at hs; omega
 obtain ⟨L, hL, hlm⟩ := hz.ops
 clear hz hs
 by_cases g1 : 60 < len
 · have q1 : (60 : Int) < len := by omega
   go_enter Tryz.func3, Tryz.ntmps3
   go_wp2_with (go_at_call 5; refine (alive13 _).mono ?_; rintro e w1 ⟨rfl, hp1⟩)
   go_ret
   exact ⟨rfl, hp1⟩
 · exact plays_main k0 hk0 a len cap L hL (by omega)
end Go.Proofs.YtoakccknimoogaaGreat
