/- The code of bytes under a key: the walk of package onetime's. Package box. -/
import Derived.Test.YtoakccknimoogaaGreatT10
set_option linter.unusedSimpArgs false
set_option linter.unusedVariables false
set_option linter.unusedSimpArgs false
set_option linter.unusedVariables false
namespace Go.Esc
open Go Go.RowKit
theorem bs_nil : ByteArray.empty = bs [] := rfl
theorem tag_low (l : List Nat) (h : Le5 67108863 l) (s0 s1 s2 s3 s4 : Nat) (h0 : s0 = l.getD 0 0) (h1 : s1 = l.getD 1 0) (h2 : s2 = l.getD 2 0) (h3 : s3 = l.getD 3 0) (h4 : s4 = l.getD 4 0) :
 val5 l = s0 + 67108864 * s1 + 4503599627370496 * s2 + 302231454903657293676544 * s3 + 20282409603651670423947251286016 * s4 ∧ s0 ≤ 67108863 ∧ s1 ≤ 67108863 ∧ s2 ≤ 67108863 ∧ s3 ≤ 67108863 ∧ s4 ≤ 67108863 := by
 subst h0; subst h1; subst h2; subst h3; subst h4
 exact ⟨rfl, getD_le h 0, getD_le h 1, getD_le h 2, getD_le h 3, getD_le h 4⟩
end Go.Esc
namespace Go.Proofs.YtoakccknimoogaaGreat
open Go.RowKit Go.Esc
set_option maxRecDepth 100000 in
set_option maxHeartbeats 3200000 in
theorem tagF (key b : Bs) (hk : key.length = 32) (hb : b.length ≤ 1000000) (w : World) :
 Calls Tryz.prog 118 #[S key, S b] w fun e w' => e = .returned (.tuple #[S (tagL key b), .bool true]) ∧ Pu w w' := by
 have hi5 : (Tryz.prog.info? 206).map (·.size) = some 5 := by kernel_rfl
 have hsz1 : (Tryz.prog.info? 5).map (·.size) = some 1 := by kernel_rfl
 have hmk : ∀ w, (Instr.makeSlice 51 (.int .i64 17) (.int .i64 17)).run Tryz.prog w = .ok (.slice (some ⟨w.heap.size, 0, none⟩) 17 17) (w.alloc (.cells (madeCells #[.int .u8 0] 17) 5)) := run_make_row' (P := Tryz.prog) 51 5 (.int .u8 0) 1 Tryz.underlying51 infoB rfl .i64 .i64 17 (by decide) (by decide)
 have hCl := fun w => clampF key hk w
 obtain ⟨r, hr⟩ : ∃ r, r = clampL key := ⟨_, rfl⟩
 have hrl : r.length = 16 := by rw [hr]; simp [clampL]
 rw [← hr] at hCl
 have h16 := leN_take_drop r 8 (by omega)
 have hlow := leN_lt (r.take 8)
 have hhigh := leN_lt (r.drop 8)
 have e256 : (256 : Nat) ^ 8 = 18446744073709551616 := by decide
 rw [show (r.take 8).length = 8 by simp; omega, e256] at hlow
 rw [show (r.drop 8).length = 8 by simp; omega, e256] at hhigh
 rw [e256] at h16
 have hLl := fun w => little (r.take 8) w (by simp; omega)
 have hLh := fun w => little (r.drop 8) w (by simp; omega)
 obtain ⟨lo0, hlo⟩ : ∃ v, v = leN (r.take 8) := ⟨_, rfl⟩
 obtain ⟨hi0, hhi⟩ : ∃ v, v = leN (r.drop 8) := ⟨_, rfl⟩
 rw [← hlo] at h16 hlow hLl
 rw [← hhi] at h16 hhigh hLh
 obtain ⟨byl, hby⟩ : ∃ l, l = split5 lo0 hi0 0 := ⟨_, rfl⟩
 obtain ⟨rv, hrv⟩ : ∃ v, v = leN r := ⟨_, rfl⟩
 have hbl : Le5 67108863 byl := by rw [hby]; exact split5_le _ _ _ hhigh (by omega)
 have hbv : val5 byl = rv := by rw [hby, split5_val _ _ _ hlow hhigh, hrv, h16]; omega
 obtain ⟨byv, hbyv⟩ : ∃ l, l = us byl := ⟨_, rfl⟩
 have hbyv5 : byv.length = 5 := by rw [hbyv, us_length]; exact hbl.1
 have hbyv1 : byv.all (·.oneCell') = true := by rw [hbyv]; exact us_one _
 have htkb : ((byv.drop 0).take 5) = byv := by rw [List.drop_zero, List.take_of_length_le (by omega)]
 have hCs := fun w => splitF lo0 hi0 0 hlow hhigh (by omega) byv (by rw [hbyv, hby]) w
 rw [show ((0 : Nat) : Int) = 0 from rfl] at hCs
 obtain ⟨tot, htot⟩ : ∃ t, t = polyF rv 0 b := ⟨_, rfl⟩
 have hfin : tagL key b = putL ((tot + leN ((key.drop 16).take 16)) % 2 ^ 128) 16 := by rw [htot, hrv, hr]; rfl
 have hr16 : r.take 16 = r := List.take_of_length_le (by omega)
 have HCL := Lib.hid hCl
 have HL1 := Lib.hid hLl
 have HL2 := Lib.hid hLh
 have HCS := Lib.hid hCs
 have HBYL := Lib.hid hbl
 have HBYV := Lib.hid hbv
 have HBYV2 := Lib.hid hbyv
 have HTOT := Lib.hid htot
 have HF := Lib.hid hfin
 clear hCl hr h16 hlow hhigh hLl hLh hlo hhi hby hrv hbl hbv hbyv hCs htot hfin
 go_enter Tryz.func118, Tryz.ntmps118
 go_wp2_with (go_at_call 146; refine (HCL.out _).mono ?_; rintro e w1 ⟨rfl, hp1⟩)
 have cL : ∀ args w, (callFunc 142 args).run Tryz.prog w = .ok (.enter 142 args) w := fun args w => run_callFunc_body Tryz.func142 (by kernel_rfl) (by kernel_rfl) args w
 have cS : ∀ args w, (callFunc 147 args).run Tryz.prog w = .ok (.enter 147 args) w := fun args w => run_callFunc_body Tryz.func147 (by kernel_rfl) (by kernel_rfl) args w
 apply region_last (n := 8) (hn := by kernel_rfl) (hlast := rfl) (hU := by kernel_rfl) (Φs := (Is _ :: Is _ :: Is _ :: Is _ :: Is _ :: Is _ :: Is _ :: IsPtr w1.heap.size 206 (us [0, 0, 0, 0, 0]) :: [])) (hm := by kernel_rfl) (hE := by kernel_rfl) (hD := by kernel_rfl) (hsize := by kernel_rfl)
 case hop =>
  refine ⟨?_, ?_, ?_, ?_, ?_, ?_, ?_, ?_, trivial⟩
  · intro a' w' hs hp he
    have e6 := hs 6 (by kernel_rfl)
    try simp [Is, Region.binds] at he
    exact op_v
  · intro a' w' hs hp he
    try simp [Is, Region.binds] at he
    exact op_v
  · intro a' w' hs hp he
    try simp [Is, Region.binds] at he
    exact op_callV (HL1.out _) rfl (wanted_none rfl) (by first | (go_simp; done) | (go_simp; rfl)) rfl
  · intro a' w' hs hp he
    have e6 := hs 6 (by kernel_rfl)
    try simp [Is, Region.binds] at he
    exact op_v
  · intro a' w' hs hp he
    try simp [Is, Region.binds] at he
    exact op_v
  · intro a' w' hs hp he
    try simp [Is, Region.binds] at he
    exact op_callV (HL2.out _) rfl (wanted_none rfl) (by first | (go_simp; done) | (go_simp; rfl)) rfl
  · intro a' w' hs hp he
    try simp [Is, Region.binds] at he
    exact op_callP (HCS.out _) rfl (wanted_none rfl) (by first | (go_simp; done) | (go_simp; rfl)) (fun _ => rfl)
  · intro a' w' hs hp he
    try simp [Is, Region.binds] at he
    refine op_val rfl (wanted_none rfl) (by go_simp; exact ⟨rfl, rfl⟩) ?_ ((Pu.refl _).alloc _); exact ⟨_, rfl, Row.newAt _ _ _ _ rfl rfl, hp.size⟩
 case hend =>
  intro a' w' hdef hsz hs hp hall
  obtain ⟨r0, r1, r2, r3, r4, r5, r6, r7, -⟩ := hall
  obtain ⟨g7, rv7, row7⟩ := r7
  have hA := agree_done (agree_step (agree_step (agree_step (agree_step (agree_step (agree_step (agree_step (agree_step (agree_init [24, 25, 26, 27, 28, 29, 30, 8] hsz hs (by kernel_rfl)) r0) r1) r2) r3) r4) r5) r6) rv7)
  have ha := act_of hA hdef
  rw [ha]
  clear ha hA hs hsz hdef r0 r1 r2 r3 r4 r5 r6 rv7
  (try simp only [List.setIfInBounds_toArray])
  (try dsimp only [List.set_cons_zero, List.set_cons_succ])
  (try simp only [Exit.then])
  have hst := row7.1.store (P := Tryz.prog) 206 0 byv (by rw [hbyv5]; exact hi5) (by rw [hbyv5]; exact Nat.le_refl 5) hbyv1; refine op_store rfl rfl 206 (.tmp 8) (.tmp 30) rfl ⟨g7, 0, none⟩ (by rfl) (by rfl) hst ?_
  (try simp only [Exit.inBlock, Exit.then])
  have hrb := Row.setCells byv 0 w' _ row7.1
  rw [splice_all (by rw [hbyv5]; rfl)] at hrb
  have hs1 := hp1.size
  have hgB := row7.2
  have hbel := (Chg.setCells g7 byv 0 w').below (Pu.trans hp1 hp) (by omega)
  obtain ⟨w2, hw2⟩ : ∃ w2, w2 = w'.setCells g7 0 byv := ⟨_, rfl⟩
  rw [← hw2] at hrb hbel ⊢
  clear hw2 hp hp1 row7 hs1
  have hbs := hbel.size
  have hblt := hrb.lt
  go_wp2_with fail
  obtain ⟨gB, hgBe⟩ : ∃ g, g = g7 := ⟨_, rfl⟩
  rw [← hgBe] at hrb hblt hgB ⊢
  obtain ⟨gS, hgSe⟩ : ∃ g, g = w2.heap.size := ⟨_, rfl⟩
  have hgS : w.heap.size ≤ gS := by omega
  have hne : gB ≠ gS := by omega
  have hrx0 : Row (w2.alloc (.cells #[.int .u64 0, .int .u64 0, .int .u64 0, .int .u64 0, .int .u64 0] 206)) gS 206 (us [0, 0, 0, 0, 0]) := Row.newAt _ _ _ _ hgSe.symm rfl
  have hz0 : Le5 67108863 [0, 0, 0, 0, 0] := ⟨rfl, by intro x hx; simp at hx; omega⟩
  rw [← hgSe]
  clear hgBe hgSe hgB hblt hbs
  go_loopw [1] (fun v wr => ∃ (cur : Bs) (x : List Nat) (acc : Nat), v = S cur ∧ cur.length ≤ 1000000 ∧ Le5 67108863 x ∧ val5 x % polyP = acc ∧ polyF rv acc cur = tot ∧ Row wr gB 206 byv ∧ Row wr gS 206 (us x) ∧ Below w.heap.size w wr) (fun v _ => match v with | .string s => s.size | _ => 0)
  case atStart => exact ⟨b, [0, 0, 0, 0, 0], 0, rfl, hb, hz0, by decide, HTOT.out.symm, hrb.alloc _, hrx0, Pu.alloc hbel _⟩
  case round =>
   clear hrb hrx0 hbel hz0
   obtain ⟨cur, x, acc, rfl, hcl, hx5, hxv, hps, hrb, hrx, hbel⟩ := hrel
   by_cases h0 : 0 < cur.length
   · have h0' : (0 : Int) < cur.length := by omega
     rw [polyF_step _ _ _ h0] at hps
     by_cases h16 : 16 ≤ cur.length
     · have q1 : (16 : Int) ≤ cur.length := by omega
       have q2 : decide ((cur.length : Int) < 16) = false := by simp; omega
       have q3 : ¬ ((cur.length : Int) < 16) := by omega
       have q4 : min (cur.length : Int) 16 = 16 := by omega
       obtain ⟨p, hp⟩ : ∃ p, p = cur.take 16 := ⟨_, rfl⟩
       have hpe : p.length = 16 := by rw [hp]; simp; omega
       have hpt : cur.take 16 = p := hp.symm
       rw [← hp] at hps
       have hp16 : ((p.length : Nat) : Int) = 16 := by omega
       clear hp
       have hpl : p.length ≤ 16 := by omega
       obtain ⟨s, hs⟩ : ∃ s, s = padBl p := ⟨_, rfl⟩
       have hsl : s.length = 17 := by rw [hs, padBl_length p hpl]
       have h17 := leN_17 s hsl
       have hlow := leN_lt (s.take 8)
       have hhigh := leN_lt ((s.take 16).drop 8)
       have htop : (s[16]'(by omega)).toNat ≤ 1 := by have := padBl_top p hpl; simp only [← hs] at this; exact this
       have hsN : leN s = leN (p ++ [1]) := by rw [hs, padBl_leN]
       have hst : (Esc.splice (cells (List.replicate 17 0)) 0 (cells (p.take 17))).set (16) (.int .u8 1) = cells s := by
        have h5 := splice_pad p hpl
        first | (rw [h5, hs]; done) | (rw [hpe] at h5; rw [h5, hs])
       have hspl : (Esc.splice (cells (List.replicate 17 0)) 0 (cells (p.take 17))).length = 17 := by rw [splice_length, cells_length, List.length_replicate]
       have hLl := fun w => little (s.take 8) w (by simp; omega)
       have hLh := fun w => little ((s.take 16).drop 8) w (by simp; omega)
       have e256 : (256 : Nat) ^ 8 = 18446744073709551616 := by decide
       rw [show (s.take 8).length = 8 by simp; omega, e256] at hlow
       rw [show ((s.take 16).drop 8).length = 8 by simp; omega, e256] at hhigh
       obtain ⟨lo, hlo⟩ : ∃ v, v = leN (s.take 8) := ⟨_, rfl⟩
       obtain ⟨hi, hhi⟩ : ∃ v, v = leN ((s.take 16).drop 8) := ⟨_, rfl⟩
       obtain ⟨c16, hc16⟩ : ∃ c, s[16]'(by omega) = c := ⟨_, rfl⟩
       rw [← hlo] at h17 hlow hLl
       rw [← hhi] at h17 hhigh hLh
       rw [hc16] at h17 htop
       obtain ⟨top, htp⟩ : ∃ t : Nat, t = c16.toNat := ⟨_, rfl⟩
       rw [← htp] at h17 htop
       have hget16 : (c16.toNat : Int) = top := by omega
       have hstep := limb_step x byl rv acc p lo hi top hx5 HBYL.out HBYV.out (by rw [hxv]; rw [Nat.mod_eq_of_lt (by rw [← hxv]; exact Nat.mod_lt _ (by decide))]) hlow hhigh htop (by rw [← hsN]; omega)
       have hsle := split5_le lo hi top hhigh htop
       obtain ⟨sp, hsp⟩ : ∃ l, l = split5 lo hi top := ⟨_, rfl⟩
       rw [← hsp] at hstep hsle
       have hple := plus5_le hx5 hsle
       obtain ⟨pl, hpl5⟩ : ∃ l, l = plus5 x sp := ⟨_, rfl⟩
       rw [← hpl5] at hstep hple
       obtain ⟨z, hz⟩ : ∃ l, l = carryN (mulN pl byl) := ⟨_, rfl⟩
       rw [← hz] at hstep
       obtain ⟨xv, hxvv⟩ : ∃ l, l = us x := ⟨_, rfl⟩
       obtain ⟨spv, hspv⟩ : ∃ l, l = us sp := ⟨_, rfl⟩
       obtain ⟨plv, hplv⟩ : ∃ l, l = us pl := ⟨_, rfl⟩
       obtain ⟨zv, hzv⟩ : ∃ l, l = us z := ⟨_, rfl⟩
       have hC1 := fun w => splitF lo hi top hlow hhigh htop spv (by rw [hspv, hsp]) w
       have hC2 := fun w => plusF x sp hx5 hsle xv spv plv hxvv hspv (by rw [hplv, hpl5]) w
       have hC3 := fun w => timesF pl byl hple HBYL.out plv byv zv hplv HBYV2.out (by rw [hzv, hz]) w
       have hxv5 : xv.length = 5 := by rw [hxvv, us_length, hx5.1]
       have hzv5 : zv.length = 5 := by rw [hzv, us_length, hstep.1.1]
       have hzv1 : zv.all (·.oneCell') = true := by rw [hzv]; exact us_one _
       have htkx : ((xv.drop 0).take 5) = xv := by rw [List.drop_zero, List.take_of_length_le (by omega)]
       rw [← hxvv] at hrx
       have HST := Lib.hid hst
       have HL1 := Lib.hid hLl
       have HL2 := Lib.hid hLh
       have HC1 := Lib.hid hC1
       have HC2 := Lib.hid hC2
       have HC3 := Lib.hid hC3
       have HZV := Lib.hid hzv
       have HXV := Lib.hid hxvv
       have HSTEP := Lib.hid hstep
       have HPS := Lib.hid hps
       clear hst hLl hLh hC1 hC2 hC3 hzv hxvv hstep hps h17 hsN hlo hhi htp hsp hpl5 hz hspv hplv hs hlow hhigh hsle hple hxv
       go_wp2_with (refine wpList_copy_str rfl (.tmp 38) (.tmp 41) 51 9 rfl 5 Tryz.underlying51 hsz1 wr.heap.size 17 17 p (by rfl) (by rfl) (Row.newAt (xs := cells (List.replicate 17 0)) _ _ _ _ rfl (by kernel_rfl)) (Nat.le_refl 17) ?_; intro w2 hrp hch
                    obtain ⟨v0, hc0⟩ : ∃ v0, w2.cell? ⟨wr.heap.size, 16, none⟩ = some v0 := ⟨_, hrp.cell (16) (by omega)⟩
                    have hf0 := hrp.frozen (16) (by omega)
                    have hrq := hrp.set (16) (.int .u8 1)
                    rw [HST.out] at hrq
                    have hcv := fun cap => Row.conv (P := Tryz.prog) (cap := cap) (n := 17) (l := s) 51 9 hrq hsl.symm Tryz.underlying51 Tryz.underlying5 Tryz.underlying9)
       have hwz := hbel.size
       have hxl := hrx.lt
       have hbl := hrb.lt
       have hrx2 := (hch.row (hrx.alloc _) (by omega)).setOther ⟨wr.heap.size, 16, none⟩ (.int .u8 1) (by simp; omega)
       have hrb2 := (hch.row (hrb.alloc _) (by omega)).setOther ⟨wr.heap.size, 16, none⟩ (.int .u8 1) (by simp; omega)
       have hbel2 := (hch.below (hbel.alloc hwz _) hwz).setCell (p := ⟨wr.heap.size, 16, none⟩) hwz (.int .u8 1)
       have hz5 : w.heap.size ≤ (w2.setCell ⟨wr.heap.size, 16, none⟩ (.int .u8 1)).heap.size := hbel2.size
       clear hrp hch hc0 hf0 hrq hcv hrx hrb hbel hwz
       have cL : ∀ args w, (callFunc 142 args).run Tryz.prog w = .ok (.enter 142 args) w := fun args w => run_callFunc_body Tryz.func142 (by kernel_rfl) (by kernel_rfl) args w
       have cS : ∀ args w, (callFunc 147 args).run Tryz.prog w = .ok (.enter 147 args) w := fun args w => run_callFunc_body Tryz.func147 (by kernel_rfl) (by kernel_rfl) args w
       have cP : ∀ args w, (callFunc 148 args).run Tryz.prog w = .ok (.enter 148 args) w := fun args w => run_callFunc_body Tryz.func148 (by kernel_rfl) (by kernel_rfl) args w
       have cT : ∀ args w, (callFunc 149 args).run Tryz.prog w = .ok (.enter 149 args) w := fun args w => run_callFunc_body Tryz.func149 (by kernel_rfl) (by kernel_rfl) args w
       have hw64 : IntKind.u64.wrap (top : Int) = top := by rw [IntKind.wrap_u64]; omega
       apply region_last (n := 14) (hn := by kernel_rfl) (hlast := rfl) (hU := by kernel_rfl) (Φs := (Is _ :: Is _ :: Is _ :: Is _ :: Is _ :: Is _ :: Is _ :: Is _ :: Is _ :: Is _ :: Is _ :: Is _ :: Is _ :: Is _ :: [])) (hm := by kernel_rfl) (hE := by kernel_rfl) (hD := by kernel_rfl) (hsize := by kernel_rfl)
       case hop =>
        refine ⟨?_, ?_, ?_, ?_, ?_, ?_, ?_, ?_, ?_, ?_, ?_, ?_, ?_, ?_, trivial⟩
        · intro a' w' hs hp he
          have e9 := hs 9 (by kernel_rfl)
          try simp [Is, Region.binds] at he
          have hlo := (hrx2.pu hp).load (P := Tryz.prog) 206 0 5 Tryz.underlying206 rfl hi5 (by omega); rw [htkx] at hlo; exact op_load rfl rfl 206 (.tmp 9) rfl ⟨gS, 0, none⟩ (by first | (simp [Act.eval, *]; done) | (simp [Act.eval, he])) hlo rfl
        · intro a' w' hs hp he
          have e12 := hs 12 (by kernel_rfl)
          try simp [Is, Region.binds] at he
          exact op_v
        · intro a' w' hs hp he
          try simp [Is, Region.binds] at he
          exact op_v
        · intro a' w' hs hp he
          try simp [Is, Region.binds] at he
          exact op_callV (HL1.out _) rfl (wanted_none rfl) (by first | (go_simp; done) | (go_simp; rfl)) rfl
        · intro a' w' hs hp he
          have e12 := hs 12 (by kernel_rfl)
          try simp [Is, Region.binds] at he
          exact op_v
        · intro a' w' hs hp he
          try simp [Is, Region.binds] at he
          exact op_v
        · intro a' w' hs hp he
          try simp [Is, Region.binds] at he
          exact op_callV (HL2.out _) rfl (wanted_none rfl) (by first | (go_simp; done) | (go_simp; rfl)) rfl
        · intro a' w' hs hp he
          have e12 := hs 12 (by kernel_rfl)
          try simp [Is, Region.binds] at he
          exact op_v
        · intro a' w' hs hp he
          try simp [Is, Region.binds] at he
          exact op_v
        · intro a' w' hs hp he
          try simp [Is, Region.binds] at he
          exact op_v
        · intro a' w' hs hp he
          try simp [Is, Region.binds] at he
          exact op_callP (HC1.out _) rfl (wanted_none rfl) (by first | (go_simp; done) | (go_simp; rfl)) (fun _ => rfl)
        · intro a' w' hs hp he
          try simp [Is, Region.binds] at he
          exact op_callP (HC2.out _) rfl (wanted_none rfl) (by first | (go_simp; done) | (go_simp; rfl)) (fun _ => rfl)
        · intro a' w' hs hp he
          have e8 := hs 8 (by kernel_rfl)
          try simp [Is, Region.binds] at he
          have hlo := (hrb2.pu hp).load (P := Tryz.prog) 206 0 5 Tryz.underlying206 rfl hi5 (by omega); rw [htkb] at hlo; exact op_load rfl rfl 206 (.tmp 8) rfl ⟨gB, 0, none⟩ (by first | (simp [Act.eval, *]; done) | (simp [Act.eval, he])) hlo rfl
        · intro a' w' hs hp he
          try simp [Is, Region.binds] at he
          exact op_callP (HC3.out _) rfl (wanted_none rfl) (by first | (go_simp; done) | (go_simp; rfl)) (fun _ => rfl)
       case hend =>
        intro a' w' hdef hsz hs hp hall
        obtain ⟨r0, r1, r2, r3, r4, r5, r6, r7, r8, r9, r10, r11, r12, r13, -⟩ := hall
        have hA := agree_done (agree_step (agree_step (agree_step (agree_step (agree_step (agree_step (agree_step (agree_step (agree_step (agree_step (agree_step (agree_step (agree_step (agree_step (agree_init [48, 49, 50, 51, 52, 53, 54, 55, 56, 57, 58, 59, 60, 61] hsz hs (by kernel_rfl)) r0) r1) r2) r3) r4) r5) r6) r7) r8) r9) r10) r11) r12) r13)
        have ha := act_of hA hdef
        rw [ha]
        clear ha hA hs hsz hdef r0 r1 r2 r3 r4 r5 r6 r7 r8 r9 r10 r11 r12 r13 
        (try simp only [List.setIfInBounds_toArray])
        (try dsimp only [List.set_cons_zero, List.set_cons_succ])
        (try simp only [Exit.then])
        have hst := (hrx2.pu hp).store (P := Tryz.prog) 206 0 zv (by rw [hzv5]; exact hi5) (by omega) hzv1; refine op_store rfl rfl 206 (.tmp 9) (.tmp 61) rfl ⟨gS, 0, none⟩ (by rfl) (by rfl) hst ?_
        (try simp only [Exit.inBlock, Exit.then])
        have hrx3 := Row.setCells zv 0 w' _ (hrx2.pu hp)
        have hch3 := Chg.setCells gS zv 0 w'
        rw [splice_all (by omega)] at hrx3
        have hrb3 := hch3.row (hrb2.pu hp) hne
        have hbel3 := hch3.below (hbel2.trans (Below.mono hp hz5)) hgS
        clear hrx2 hrb2 hbel2 hch3 hp
        go_wp2_with fail
        go_roundw
        case rel =>
         have hstep := HSTEP.out
         refine ⟨cur.drop 16, z, pstep rv acc p, rfl, by simp <;> omega, hstep.1, hstep.2, HPS.out, hrb3, ?_, hbel3⟩
         rw [← HZV.out]; exact hrx3
        case measure => simp; omega
     · have q1 : (cur.length : Int) < 16 := by omega
       have q4 : min (cur.length : Int) 16 = cur.length := by omega
       obtain ⟨p, hp⟩ : ∃ p, p = cur := ⟨_, rfl⟩
       have hpe : p.length = cur.length := by rw [hp]
       have hpt : cur.take cur.length = p := by rw [hp, List.take_length]
       rw [List.take_of_length_le (by omega), List.drop_of_length_le (by omega), ← hp] at hps
       clear hpe hpt
       subst hp
       have hpe : p.length = p.length := rfl
       have hpl : p.length ≤ 16 := by omega
       obtain ⟨s, hs⟩ : ∃ s, s = padBl p := ⟨_, rfl⟩
       have hsl : s.length = 17 := by rw [hs, padBl_length p hpl]
       have h17 := leN_17 s hsl
       have hlow := leN_lt (s.take 8)
       have hhigh := leN_lt ((s.take 16).drop 8)
       have htop : (s[16]'(by omega)).toNat ≤ 1 := by have := padBl_top p hpl; simp only [← hs] at this; exact this
       have hsN : leN s = leN (p ++ [1]) := by rw [hs, padBl_leN]
       have hst : (Esc.splice (cells (List.replicate 17 0)) 0 (cells (p.take 17))).set (p.length) (.int .u8 1) = cells s := by
        have h5 := splice_pad p hpl
        first | (rw [h5, hs]; done) | (rw [hpe] at h5; rw [h5, hs])
       have hspl : (Esc.splice (cells (List.replicate 17 0)) 0 (cells (p.take 17))).length = 17 := by rw [splice_length, cells_length, List.length_replicate]
       have hLl := fun w => little (s.take 8) w (by simp; omega)
       have hLh := fun w => little ((s.take 16).drop 8) w (by simp; omega)
       have e256 : (256 : Nat) ^ 8 = 18446744073709551616 := by decide
       rw [show (s.take 8).length = 8 by simp; omega, e256] at hlow
       rw [show ((s.take 16).drop 8).length = 8 by simp; omega, e256] at hhigh
       obtain ⟨lo, hlo⟩ : ∃ v, v = leN (s.take 8) := ⟨_, rfl⟩
       obtain ⟨hi, hhi⟩ : ∃ v, v = leN ((s.take 16).drop 8) := ⟨_, rfl⟩
       obtain ⟨c16, hc16⟩ : ∃ c, s[16]'(by omega) = c := ⟨_, rfl⟩
       rw [← hlo] at h17 hlow hLl
       rw [← hhi] at h17 hhigh hLh
       rw [hc16] at h17 htop
       obtain ⟨top, htp⟩ : ∃ t : Nat, t = c16.toNat := ⟨_, rfl⟩
       rw [← htp] at h17 htop
       have hget16 : (c16.toNat : Int) = top := by omega
       have hstep := limb_step x byl rv acc p lo hi top hx5 HBYL.out HBYV.out (by rw [hxv]; rw [Nat.mod_eq_of_lt (by rw [← hxv]; exact Nat.mod_lt _ (by decide))]) hlow hhigh htop (by rw [← hsN]; omega)
       have hsle := split5_le lo hi top hhigh htop
       obtain ⟨sp, hsp⟩ : ∃ l, l = split5 lo hi top := ⟨_, rfl⟩
       rw [← hsp] at hstep hsle
       have hple := plus5_le hx5 hsle
       obtain ⟨pl, hpl5⟩ : ∃ l, l = plus5 x sp := ⟨_, rfl⟩
       rw [← hpl5] at hstep hple
       obtain ⟨z, hz⟩ : ∃ l, l = carryN (mulN pl byl) := ⟨_, rfl⟩
       rw [← hz] at hstep
       obtain ⟨xv, hxvv⟩ : ∃ l, l = us x := ⟨_, rfl⟩
       obtain ⟨spv, hspv⟩ : ∃ l, l = us sp := ⟨_, rfl⟩
       obtain ⟨plv, hplv⟩ : ∃ l, l = us pl := ⟨_, rfl⟩
       obtain ⟨zv, hzv⟩ : ∃ l, l = us z := ⟨_, rfl⟩
       have hC1 := fun w => splitF lo hi top hlow hhigh htop spv (by rw [hspv, hsp]) w
       have hC2 := fun w => plusF x sp hx5 hsle xv spv plv hxvv hspv (by rw [hplv, hpl5]) w
       have hC3 := fun w => timesF pl byl hple HBYL.out plv byv zv hplv HBYV2.out (by rw [hzv, hz]) w
       have hxv5 : xv.length = 5 := by rw [hxvv, us_length, hx5.1]
       have hzv5 : zv.length = 5 := by rw [hzv, us_length, hstep.1.1]
       have hzv1 : zv.all (·.oneCell') = true := by rw [hzv]; exact us_one _
       have htkx : ((xv.drop 0).take 5) = xv := by rw [List.drop_zero, List.take_of_length_le (by omega)]
       rw [← hxvv] at hrx
       have HST := Lib.hid hst
       have HL1 := Lib.hid hLl
       have HL2 := Lib.hid hLh
       have HC1 := Lib.hid hC1
       have HC2 := Lib.hid hC2
       have HC3 := Lib.hid hC3
       have HZV := Lib.hid hzv
       have HXV := Lib.hid hxvv
       have HSTEP := Lib.hid hstep
       have HPS := Lib.hid hps
       clear hst hLl hLh hC1 hC2 hC3 hzv hxvv hstep hps h17 hsN hlo hhi htp hsp hpl5 hz hspv hplv hs hlow hhigh hsle hple hxv
       go_wp2_with (refine wpList_copy_str rfl (.tmp 38) (.tmp 41) 51 9 rfl 5 Tryz.underlying51 hsz1 wr.heap.size 17 17 p (by rfl) (by rfl) (Row.newAt (xs := cells (List.replicate 17 0)) _ _ _ _ rfl (by kernel_rfl)) (Nat.le_refl 17) ?_; intro w2 hrp hch
                    obtain ⟨v0, hc0⟩ : ∃ v0, w2.cell? ⟨wr.heap.size, p.length, none⟩ = some v0 := ⟨_, hrp.cell (p.length) (by omega)⟩
                    have hf0 := hrp.frozen (p.length) (by omega)
                    have hrq := hrp.set (p.length) (.int .u8 1)
                    rw [HST.out] at hrq
                    have hcv := fun cap => Row.conv (P := Tryz.prog) (cap := cap) (n := 17) (l := s) 51 9 hrq hsl.symm Tryz.underlying51 Tryz.underlying5 Tryz.underlying9)
       have hwz := hbel.size
       have hxl := hrx.lt
       have hbl := hrb.lt
       have hrx2 := (hch.row (hrx.alloc _) (by omega)).setOther ⟨wr.heap.size, p.length, none⟩ (.int .u8 1) (by simp; omega)
       have hrb2 := (hch.row (hrb.alloc _) (by omega)).setOther ⟨wr.heap.size, p.length, none⟩ (.int .u8 1) (by simp; omega)
       have hbel2 := (hch.below (hbel.alloc hwz _) hwz).setCell (p := ⟨wr.heap.size, p.length, none⟩) hwz (.int .u8 1)
       have hz5 : w.heap.size ≤ (w2.setCell ⟨wr.heap.size, p.length, none⟩ (.int .u8 1)).heap.size := hbel2.size
       clear hrp hch hc0 hf0 hrq hcv hrx hrb hbel hwz
       have cL : ∀ args w, (callFunc 142 args).run Tryz.prog w = .ok (.enter 142 args) w := fun args w => run_callFunc_body Tryz.func142 (by kernel_rfl) (by kernel_rfl) args w
       have cS : ∀ args w, (callFunc 147 args).run Tryz.prog w = .ok (.enter 147 args) w := fun args w => run_callFunc_body Tryz.func147 (by kernel_rfl) (by kernel_rfl) args w
       have cP : ∀ args w, (callFunc 148 args).run Tryz.prog w = .ok (.enter 148 args) w := fun args w => run_callFunc_body Tryz.func148 (by kernel_rfl) (by kernel_rfl) args w
       have cT : ∀ args w, (callFunc 149 args).run Tryz.prog w = .ok (.enter 149 args) w := fun args w => run_callFunc_body Tryz.func149 (by kernel_rfl) (by kernel_rfl) args w
       have hw64 : IntKind.u64.wrap (top : Int) = top := by rw [IntKind.wrap_u64]; omega
       apply region_last (n := 14) (hn := by kernel_rfl) (hlast := rfl) (hU := by kernel_rfl) (Φs := (Is _ :: Is _ :: Is _ :: Is _ :: Is _ :: Is _ :: Is _ :: Is _ :: Is _ :: Is _ :: Is _ :: Is _ :: Is _ :: Is _ :: [])) (hm := by kernel_rfl) (hE := by kernel_rfl) (hD := by kernel_rfl) (hsize := by kernel_rfl)
       case hop =>
        refine ⟨?_, ?_, ?_, ?_, ?_, ?_, ?_, ?_, ?_, ?_, ?_, ?_, ?_, ?_, trivial⟩
        · intro a' w' hs hp he
          have e9 := hs 9 (by kernel_rfl)
          try simp [Is, Region.binds] at he
          have hlo := (hrx2.pu hp).load (P := Tryz.prog) 206 0 5 Tryz.underlying206 rfl hi5 (by omega); rw [htkx] at hlo; exact op_load rfl rfl 206 (.tmp 9) rfl ⟨gS, 0, none⟩ (by first | (simp [Act.eval, *]; done) | (simp [Act.eval, he])) hlo rfl
        · intro a' w' hs hp he
          have e12 := hs 12 (by kernel_rfl)
          try simp [Is, Region.binds] at he
          exact op_v
        · intro a' w' hs hp he
          try simp [Is, Region.binds] at he
          exact op_v
        · intro a' w' hs hp he
          try simp [Is, Region.binds] at he
          exact op_callV (HL1.out _) rfl (wanted_none rfl) (by first | (go_simp; done) | (go_simp; rfl)) rfl
        · intro a' w' hs hp he
          have e12 := hs 12 (by kernel_rfl)
          try simp [Is, Region.binds] at he
          exact op_v
        · intro a' w' hs hp he
          try simp [Is, Region.binds] at he
          exact op_v
        · intro a' w' hs hp he
          try simp [Is, Region.binds] at he
          exact op_callV (HL2.out _) rfl (wanted_none rfl) (by first | (go_simp; done) | (go_simp; rfl)) rfl
        · intro a' w' hs hp he
          have e12 := hs 12 (by kernel_rfl)
          try simp [Is, Region.binds] at he
          exact op_v
        · intro a' w' hs hp he
          try simp [Is, Region.binds] at he
          exact op_v
        · intro a' w' hs hp he
          try simp [Is, Region.binds] at he
          exact op_v
        · intro a' w' hs hp he
          try simp [Is, Region.binds] at he
          exact op_callP (HC1.out _) rfl (wanted_none rfl) (by first | (go_simp; done) | (go_simp; rfl)) (fun _ => rfl)
        · intro a' w' hs hp he
          try simp [Is, Region.binds] at he
          exact op_callP (HC2.out _) rfl (wanted_none rfl) (by first | (go_simp; done) | (go_simp; rfl)) (fun _ => rfl)
        · intro a' w' hs hp he
          have e8 := hs 8 (by kernel_rfl)
          try simp [Is, Region.binds] at he
          have hlo := (hrb2.pu hp).load (P := Tryz.prog) 206 0 5 Tryz.underlying206 rfl hi5 (by omega); rw [htkb] at hlo; exact op_load rfl rfl 206 (.tmp 8) rfl ⟨gB, 0, none⟩ (by first | (simp [Act.eval, *]; done) | (simp [Act.eval, he])) hlo rfl
        · intro a' w' hs hp he
          try simp [Is, Region.binds] at he
          exact op_callP (HC3.out _) rfl (wanted_none rfl) (by first | (go_simp; done) | (go_simp; rfl)) (fun _ => rfl)
       case hend =>
        intro a' w' hdef hsz hs hp hall
        obtain ⟨r0, r1, r2, r3, r4, r5, r6, r7, r8, r9, r10, r11, r12, r13, -⟩ := hall
        have hA := agree_done (agree_step (agree_step (agree_step (agree_step (agree_step (agree_step (agree_step (agree_step (agree_step (agree_step (agree_step (agree_step (agree_step (agree_step (agree_init [48, 49, 50, 51, 52, 53, 54, 55, 56, 57, 58, 59, 60, 61] hsz hs (by kernel_rfl)) r0) r1) r2) r3) r4) r5) r6) r7) r8) r9) r10) r11) r12) r13)
        have ha := act_of hA hdef
        rw [ha]
        clear ha hA hs hsz hdef r0 r1 r2 r3 r4 r5 r6 r7 r8 r9 r10 r11 r12 r13 
        (try simp only [List.setIfInBounds_toArray])
        (try dsimp only [List.set_cons_zero, List.set_cons_succ])
        (try simp only [Exit.then])
        have hst := (hrx2.pu hp).store (P := Tryz.prog) 206 0 zv (by rw [hzv5]; exact hi5) (by omega) hzv1; refine op_store rfl rfl 206 (.tmp 9) (.tmp 61) rfl ⟨gS, 0, none⟩ (by rfl) (by rfl) hst ?_
        (try simp only [Exit.inBlock, Exit.then])
        have hrx3 := Row.setCells zv 0 w' _ (hrx2.pu hp)
        have hch3 := Chg.setCells gS zv 0 w'
        rw [splice_all (by omega)] at hrx3
        have hrb3 := hch3.row (hrb2.pu hp) hne
        have hbel3 := hch3.below (hbel2.trans (Below.mono hp hz5)) hgS
        clear hrx2 hrb2 hbel2 hch3 hp
        go_wp2_with fail
        go_roundw
        case rel =>
         have hstep := HSTEP.out
         refine ⟨[], z, pstep rv acc p, (by first | rfl | simp [bs_nil]), by simp <;> omega, hstep.1, hstep.2, HPS.out, hrb3, ?_, hbel3⟩
         rw [← HZV.out]; exact hrx3
        case measure => simp; omega
   · obtain rfl : cur = [] := List.eq_nil_of_length_eq_zero (by omega)
     rw [polyF_nil] at hps
     obtain ⟨hwv, hwl⟩ := whole_val x (hx5.mono (by decide))
     rw [hxv, hps] at hwv
     have hwf := fun xs R h1 h2 w => wholeF x (hx5.mono (by decide)) xs R h1 h2 w
     obtain ⟨u, hu⟩ : ∃ u, u = wholeN x := ⟨_, rfl⟩
     rw [← hu] at hwv hwl
     obtain ⟨xv, hxvv⟩ : ∃ l, l = us x := ⟨_, rfl⟩
     obtain ⟨uv, huv⟩ : ∃ l, l = us u := ⟨_, rfl⟩
     have hW := fun w => hwf xv uv hxvv (by rw [huv, hu]) w
     have hxv5 : xv.length = 5 := by rw [hxvv, us_length, hx5.1]
     have huv5 : uv.length = 5 := by rw [huv, us_length, hwl.1]
     have huv1 : uv.all (·.oneCell') = true := by rw [huv]; exact us_one _
     have htkx : ((xv.drop 0).take 5) = xv := by rw [List.drop_zero, List.take_of_length_le (by omega)]
     rw [← hxvv] at hrx
     have HW := Lib.hid hW
     have HUV := Lib.hid huv
     have hbs := hbel.size
     clear hwf hu hxvv huv hW hxv hps hrb
     go_wp2_with (first
      | (refine wpList_load_part rfl 206 (.tmp 9) rfl gS 0 5 (by rfl) hrx Tryz.underlying206 rfl hi5 (by omega) ?_; rw [htkx])
      | (go_at_call 150; refine (HW.out _).mono ?_; rintro e w3 ⟨rfl, hp3⟩; replace hrx := hrx.pu hp3; replace hbel := hbel.trans (Below.mono hp3 hbs))
      | (refine wpList_store_part rfl 206 (.tmp 9) (.tmp 66) rfl gS 0 uv (by rfl) (by rfl) hrx (by rw [huv5]; exact hi5) (by omega) huv1 ?_; intro w4 hru hch))
     rw [splice_all (by omega), HUV.out] at hru
     replace hbel := hch.below hbel hgS
     clear hrx hch hbs hp3
     obtain ⟨s0, hs0⟩ : ∃ v, v = u.getD 0 0 := ⟨_, rfl⟩
     obtain ⟨s1, hs1⟩ : ∃ v, v = u.getD 1 0 := ⟨_, rfl⟩
     obtain ⟨s2, hs2⟩ : ∃ v, v = u.getD 2 0 := ⟨_, rfl⟩
     obtain ⟨s3, hs3⟩ : ∃ v, v = u.getD 3 0 := ⟨_, rfl⟩
     obtain ⟨s4, hs4⟩ : ∃ v, v = u.getD 4 0 := ⟨_, rfl⟩
     obtain ⟨hval, b0, b1, b2, b3, b4⟩ := tag_low u hwl s0 s1 s2 s3 s4 hs0 hs1 hs2 hs3 hs4
     have hul := hwl.1
     have HS0 := Lib.hid hs0
     have HS1 := Lib.hid hs1
     have HS2 := Lib.hid hs2
     have HS3 := Lib.hid hs3
     have HS4 := Lib.hid hs4
     clear hs0 hs1 hs2 hs3 hs4
     obtain ⟨h1, hh1⟩ : ∃ v, v = s1 * 2 ^ 26 := ⟨_, rfl⟩
     obtain ⟨o1, ho1⟩ : ∃ v, v = s0 + s1 * 2 ^ 26 := ⟨_, rfl⟩
     obtain ⟨m2, hm2⟩ : ∃ v, v = s2 % 4096 := ⟨_, rfl⟩
     obtain ⟨h2, hh2⟩ : ∃ v, v = m2 * 2 ^ 52 := ⟨_, rfl⟩
     obtain ⟨A, hA⟩ : ∃ v, v = o1 + m2 * 2 ^ 52 := ⟨_, rfl⟩
     obtain ⟨q2, hq2⟩ : ∃ v, v = s2 / 4096 := ⟨_, rfl⟩
     obtain ⟨h3, hh3⟩ : ∃ v, v = s3 * 2 ^ 14 := ⟨_, rfl⟩
     obtain ⟨o3, ho3⟩ : ∃ v, v = q2 + s3 * 2 ^ 14 := ⟨_, rfl⟩
     obtain ⟨m4, hm4⟩ : ∃ v, v = s4 % 16777216 := ⟨_, rfl⟩
     obtain ⟨h4, hh4⟩ : ∃ v, v = m4 * 2 ^ 40 := ⟨_, rfl⟩
     obtain ⟨Bw, hB⟩ : ∃ v, v = o3 + m4 * 2 ^ 40 := ⟨_, rfl⟩
     have hk1l := leN_lt ((key.take 24).drop 16)
     have hk2l := leN_lt (key.drop 24)
     have e256 : (256 : Nat) ^ 8 = 18446744073709551616 := by decide
     rw [show ((key.take 24).drop 16).length = 8 by simp; omega, e256] at hk1l
     rw [show (key.drop 24).length = 8 by simp; omega, e256] at hk2l
     have hLk1 := fun w => little ((key.take 24).drop 16) w (by simp; omega)
     have hLk2 := fun w => little (key.drop 24) w (by simp; omega)
     have hkk := leN_take_drop (key.drop 16) 8 (by simp; omega)
     rw [List.drop_drop, e256, show (key.drop 16).take 8 = (key.take 24).drop 16 by rw [List.drop_take]] at hkk
     rw [show 16 + 8 = 24 from rfl] at hkk
     obtain ⟨k1, hk1⟩ : ∃ v, v = leN ((key.take 24).drop 16) := ⟨_, rfl⟩
     obtain ⟨k2, hk2⟩ : ∃ v, v = leN (key.drop 24) := ⟨_, rfl⟩
     rw [← hk1] at hk1l hLk1 hkk
     rw [← hk2] at hk2l hLk2 hkk
     have f1 : (s1 : Int) * 67108864 = h1 := by omega
     have f1w : IntKind.u64.wrap (h1 : Int) = h1 := by rw [IntKind.wrap_u64]; omega
     have f1m : (h1 : Int) % 18446744073709551616 = h1 := by omega
     have f2 : Go.bits .or .u64 (s0 : Int) (h1 : Int) = (o1 : Int) := by rw [hh1, or_low 26 s0 s1 (by omega) (by omega), ho1]
     have f3 : (s2 : Int) * 4503599627370496 % 18446744073709551616 = h2 := by omega
     have f3w : IntKind.u64.wrap ((s2 : Int) * 4503599627370496) = h2 := by rw [IntKind.wrap_u64]; omega
     have f4 : Go.bits .or .u64 (o1 : Int) (h2 : Int) = (A : Int) := by rw [hh2, or_low 52 o1 m2 (by omega) (by omega), hA]
     have g1 : (s2 : Int) / 4096 = q2 := by omega
     have g2 : (s3 : Int) * 16384 = h3 := by omega
     have g2w : IntKind.u64.wrap (h3 : Int) = h3 := by rw [IntKind.wrap_u64]; omega
     have g2m : (h3 : Int) % 18446744073709551616 = h3 := by omega
     have g3 : Go.bits .or .u64 (q2 : Int) (h3 : Int) = (o3 : Int) := by rw [hh3, or_low 14 q2 s3 (by omega) (by omega), ho3]
     have g4 : (s4 : Int) * 1099511627776 % 18446744073709551616 = h4 := by omega
     have g4w : IntKind.u64.wrap ((s4 : Int) * 1099511627776) = h4 := by rw [IntKind.wrap_u64]; omega
     have g5 : Go.bits .or .u64 (o3 : Int) (h4 : Int) = (Bw : Int) := by rw [hh4, or_low 40 o3 m4 (by omega) (by omega), hB]
     have hAl : A < 18446744073709551616 := by omega
     have hBl : Bw < 18446744073709551616 := by omega
     obtain ⟨lw, hlw⟩ : ∃ v, v = (A + k1 + 0) % 18446744073709551616 := ⟨_, rfl⟩
     obtain ⟨cy, hcy⟩ : ∃ v, v = (A + k1 + 0) / 18446744073709551616 := ⟨_, rfl⟩
     have hcy1 : cy ≤ 1 := by omega
     obtain ⟨hw, hhw⟩ : ∃ v, v = (Bw + k2 + cy) % 18446744073709551616 := ⟨_, rfl⟩
     have hA1 := fun w => add64U A k1 0 hAl hk1l (by omega) w
     have hA2 := fun w => add64U Bw k2 cy hBl hk2l hcy1 w
     rw [← hlw, ← hcy, show ((0 : Nat) : Int) = 0 from rfl] at hA1
     rw [← hhw] at hA2
     have hP1 := fun w => putLittle (lw : Int) 8 w (by omega) (by omega) (by omega)
     have hP2 := fun w => putLittle (hw : Int) 8 w (by omega) (by omega) (by omega)
     rw [show ((lw : Int)).toNat = lw from rfl, show ((8 : Int)).toNat = 8 from rfl] at hP1
     rw [show ((hw : Int)).toNat = hw from rfl, show ((8 : Int)).toNat = 8 from rfl] at hP2
     have hres : tagL key b = putL lw 8 ++ putL hw 8 := by
      rw [HF.out, show (key.drop 16).take 16 = key.drop 16 from List.take_of_length_le (by simp; omega), hkk]
      have e1 : (tot + (k1 + 18446744073709551616 * k2)) % 2 ^ 128 = lw + 18446744073709551616 * hw := by
       rw [hwv] at hval; omega
      rw [e1, show (16 : Nat) = 8 + 8 from rfl, putL_append, e256, ← putL_mod (lw + 18446744073709551616 * hw) 8, e256]
      rw [Nat.add_mul_mod_self_left, Nat.mod_eq_of_lt (by omega), show (lw + 18446744073709551616 * hw) / 18446744073709551616 = hw by omega]
     obtain ⟨p1, hp1⟩ : ∃ l, l = putL lw 8 := ⟨_, rfl⟩
     obtain ⟨p2, hp2⟩ : ∃ l, l = putL hw 8 := ⟨_, rfl⟩
     have hp1l : p1.length = 8 := by rw [hp1, putL_length]
     have hp2l : p2.length = 8 := by rw [hp2, putL_length]
     rw [← hp1] at hP1 hres
     rw [← hp2] at hP2 hres
     have hz9 : ¬ (9223372036854775807 < p1.length + p2.length) := by omega
     have hz8 : ¬ (9223372036854775807 < 8 + 8) := by omega
     have cL : ∀ args w, (callFunc 142 args).run Tryz.prog w = .ok (.enter 142 args) w := fun args w => run_callFunc_body Tryz.func142 (by kernel_rfl) (by kernel_rfl) args w
     have HLK1 := Lib.hid hLk1
     have HLK2 := Lib.hid hLk2
     have HP1 := Lib.hid hP1
     have HP2 := Lib.hid hP2
     have HRES := Lib.hid hres
     have HUL := Lib.hid hul
     have HCYL := hcy1
     clear hLk1 hLk2 hP1 hP2 hres hkk hval hwv hk1 hk2 hh1 ho1 hm2 hh2 hA hq2 hh3 ho3 hm4 hh4 hB hlw hcy hhw hp1 hp2 hul e256 b0 b1 b2 b3 b4
     have hksl : key.take 32 = key := List.take_of_length_le (by omega)
     apply region_pu (Φs := (Is _ :: Is _ :: Is _ :: Is _ :: Is _ :: Is _ :: Is _ :: Is _ :: Is _ :: Is _ :: Is _ :: Is _ :: Is _ :: Is _ :: Is _ :: Is _ :: Is _ :: Is _ :: Is _ :: [])) (hm := by kernel_rfl) (hE := by kernel_rfl) (hD := by kernel_rfl) (hsize := by kernel_rfl)
     case hop =>
      refine ⟨?_, ?_, ?_, ?_, ?_, ?_, ?_, ?_, ?_, ?_, ?_, ?_, ?_, ?_, ?_, ?_, ?_, ?_, ?_, trivial⟩
      · intro a' w' hs hp he
        have e9 := hs 9 (by kernel_rfl)
        try simp [Is, Region.binds] at he
        exact op_v
      · intro a' w' hs hp he
        try simp [Is, Region.binds] at he
        have c := Row.limb (hru.pu hp) 0 (by have := HUL.out; omega); rw [← HS0.out] at c; exact op_val rfl (wanted_none rfl) (by first | (go_simp; done) | (go_simp; rfl)) rfl (Pu.refl _)
      · intro a' w' hs hp he
        have e9 := hs 9 (by kernel_rfl)
        try simp [Is, Region.binds] at he
        exact op_v
      · intro a' w' hs hp he
        try simp [Is, Region.binds] at he
        have c := Row.limb (hru.pu hp) 1 (by have := HUL.out; omega); rw [← HS1.out] at c; exact op_val rfl (wanted_none rfl) (by first | (go_simp; done) | (go_simp; rfl)) rfl (Pu.refl _)
      · intro a' w' hs hp he
        try simp [Is, Region.binds] at he
        exact op_v
      · intro a' w' hs hp he
        try simp [Is, Region.binds] at he
        exact op_v
      · intro a' w' hs hp he
        have e9 := hs 9 (by kernel_rfl)
        try simp [Is, Region.binds] at he
        exact op_v
      · intro a' w' hs hp he
        try simp [Is, Region.binds] at he
        have c := Row.limb (hru.pu hp) 2 (by have := HUL.out; omega); rw [← HS2.out] at c; exact op_val rfl (wanted_none rfl) (by first | (go_simp; done) | (go_simp; rfl)) rfl (Pu.refl _)
      · intro a' w' hs hp he
        try simp [Is, Region.binds] at he
        exact op_v
      · intro a' w' hs hp he
        try simp [Is, Region.binds] at he
        exact op_v
      · intro a' w' hs hp he
        have e0 := hs 0 (by kernel_rfl)
        try simp [Is, Region.binds] at he
        exact op_v
      · intro a' w' hs hp he
        try simp [Is, Region.binds] at he
        exact op_v
      · intro a' w' hs hp he
        try simp [Is, Region.binds] at he
        exact op_callV (HLK1.out _) rfl (wanted_none rfl) (by first | (go_simp; done) | (go_simp; rfl)) rfl
      · intro a' w' hs hp he
        try simp [Is, Region.binds] at he
        exact op_v
      · intro a' w' hs hp he
        try simp [Is, Region.binds] at he
        exact op_v
      · intro a' w' hs hp he
        try simp [Is, Region.binds] at he
        exact op_v
      · intro a' w' hs hp he
        try simp [Is, Region.binds] at he
        exact op_v
      · intro a' w' hs hp he
        try simp [Is, Region.binds] at he
        exact op_v
      · intro a' w' hs hp he
        try simp [Is, Region.binds] at he
        exact op_v
     case hend =>
      intro a' w' hdef hsz hs hp hall
      obtain ⟨r0, r1, r2, r3, r4, r5, r6, r7, r8, r9, r10, r11, r12, r13, r14, r15, r16, r17, r18, -⟩ := hall
      have hA := agree_done (agree_step (agree_step (agree_step (agree_step (agree_step (agree_step (agree_step (agree_step (agree_step (agree_step (agree_step (agree_step (agree_step (agree_step (agree_step (agree_step (agree_step (agree_step (agree_step (agree_init [68, 69, 70, 71, 72, 73, 74, 75, 76, 77, 78, 79, 80, 81, 67, 82, 83, 13, 14] hsz hs (by kernel_rfl)) r0) r1) r2) r3) r4) r5) r6) r7) r8) r9) r10) r11) r12) r13) r14) r15) r16) r17) r18)
      have ha := act_of hA hdef
      rw [ha]
      clear ha hA hs hsz hdef r0 r1 r2 r3 r4 r5 r6 r7 r8 r9 r10 r11 r12 r13 r14 r15 r16 r17 r18 
      (try simp only [List.setIfInBounds_toArray])
      (try dsimp only [List.set_cons_zero, List.set_cons_succ])
      (try simp only [Exit.then])
      replace hru := hru.pu hp
      replace hbel := hbel.trans (Below.mono hp hbel.size)
      clear hp
      go_wp2_with fail
      apply region_pu (Φs := (Is _ :: Is _ :: Is _ :: Is _ :: Is _ :: Is _ :: Is _ :: Is _ :: Is _ :: Is _ :: Is _ :: Is _ :: Is _ :: Is _ :: Is _ :: Is _ :: Is _ :: Is _ :: Is _ :: Is _ :: Is _ :: [])) (hm := by kernel_rfl) (hE := by kernel_rfl) (hD := by kernel_rfl) (hsize := by kernel_rfl)
      case hop =>
       refine ⟨?_, ?_, ?_, ?_, ?_, ?_, ?_, ?_, ?_, ?_, ?_, ?_, ?_, ?_, ?_, ?_, ?_, ?_, ?_, ?_, ?_, trivial⟩
       · intro a' w' hs hp he
         have e9 := hs 9 (by kernel_rfl)
         try simp [Is, Region.binds] at he
         exact op_v
       · intro a' w' hs hp he
         try simp [Is, Region.binds] at he
         have c := Row.limb (hru.pu hp) 2 (by have := HUL.out; omega); rw [← HS2.out] at c; exact op_val rfl (wanted_none rfl) (by first | (go_simp; done) | (go_simp; rfl)) rfl (Pu.refl _)
       · intro a' w' hs hp he
         try simp [Is, Region.binds] at he
         exact op_v
       · intro a' w' hs hp he
         have e9 := hs 9 (by kernel_rfl)
         try simp [Is, Region.binds] at he
         exact op_v
       · intro a' w' hs hp he
         try simp [Is, Region.binds] at he
         have c := Row.limb (hru.pu hp) 3 (by have := HUL.out; omega); rw [← HS3.out] at c; exact op_val rfl (wanted_none rfl) (by first | (go_simp; done) | (go_simp; rfl)) rfl (Pu.refl _)
       · intro a' w' hs hp he
         try simp [Is, Region.binds] at he
         exact op_v
       · intro a' w' hs hp he
         try simp [Is, Region.binds] at he
         exact op_v
       · intro a' w' hs hp he
         have e9 := hs 9 (by kernel_rfl)
         try simp [Is, Region.binds] at he
         exact op_v
       · intro a' w' hs hp he
         try simp [Is, Region.binds] at he
         have c := Row.limb (hru.pu hp) 4 (by have := HUL.out; omega); rw [← HS4.out] at c; exact op_val rfl (wanted_none rfl) (by first | (go_simp; done) | (go_simp; rfl)) rfl (Pu.refl _)
       · intro a' w' hs hp he
         try simp [Is, Region.binds] at he
         exact op_v
       · intro a' w' hs hp he
         try simp [Is, Region.binds] at he
         exact op_v
       · intro a' w' hs hp he
         have e0 := hs 0 (by kernel_rfl)
         try simp [Is, Region.binds] at he
         exact op_v
       · intro a' w' hs hp he
         try simp [Is, Region.binds] at he
         exact op_v
       · intro a' w' hs hp he
         try simp [Is, Region.binds] at he
         exact op_callV (HLK2.out _) rfl (wanted_none rfl) (by first | (go_simp; done) | (go_simp; rfl)) rfl
       · intro a' w' hs hp he
         have e14 := hs 14 (by kernel_rfl)
         try simp [Is, Region.binds] at he
         exact op_v
       · intro a' w' hs hp he
         try simp [Is, Region.binds] at he
         exact op_v
       · intro a' w' hs hp he
         try simp [Is, Region.binds] at he
         exact op_v
       · intro a' w' hs hp he
         try simp [Is, Region.binds] at he
         exact op_v
       · intro a' w' hs hp he
         try simp [Is, Region.binds] at he
         exact op_v
       · intro a' w' hs hp he
         try simp [Is, Region.binds] at he
         exact op_v
       · intro a' w' hs hp he
         try simp [Is, Region.binds] at he
         exact op_v
      case hend =>
       intro a' w' hdef hsz hs hp hall
       obtain ⟨r0, r1, r2, r3, r4, r5, r6, r7, r8, r9, r10, r11, r12, r13, r14, r15, r16, r17, r18, r19, r20, -⟩ := hall
       have hA := agree_done (agree_step (agree_step (agree_step (agree_step (agree_step (agree_step (agree_step (agree_step (agree_step (agree_step (agree_step (agree_step (agree_step (agree_step (agree_step (agree_step (agree_step (agree_step (agree_step (agree_step (agree_step (agree_init [85, 86, 87, 88, 89, 90, 91, 92, 93, 94, 95, 96, 97, 98, 99, 100, 84, 101, 102, 15, 16] hsz hs (by kernel_rfl)) r0) r1) r2) r3) r4) r5) r6) r7) r8) r9) r10) r11) r12) r13) r14) r15) r16) r17) r18) r19) r20)
       have ha := act_of hA hdef
       rw [ha]
       clear ha hA hs hsz hdef r0 r1 r2 r3 r4 r5 r6 r7 r8 r9 r10 r11 r12 r13 r14 r15 r16 r17 r18 r19 r20 
       (try simp only [List.setIfInBounds_toArray])
       (try dsimp only [List.set_cons_zero, List.set_cons_succ])
       (try simp only [Exit.then])
       replace hbel := hbel.trans (Below.mono hp hbel.size)
       clear hru hp
       go_wp2_with (go_at_call 117; first
        | (with_reducible refine (HP1.out _).mono ?_
           rintro e w5 ⟨rfl, hp5⟩; replace hbel := hbel.trans (Below.mono hp5 hbel.size))
        | (with_reducible refine (HP2.out _).mono ?_
           rintro e w6 ⟨rfl, hp6⟩; replace hbel := hbel.trans (Below.mono hp6 hbel.size)))
       go_ret2
       exact ⟨by rw [HRES.out]; rfl, hbel⟩
end Go.Proofs.YtoakccknimoogaaGreat
set_option linter.unusedSimpArgs false
set_option linter.unusedVariables false
namespace Go.Proofs.YtoakccknimoogaaGreat
open Go.RowKit Go.Esc
theorem filledL_length (b : Bs) : (filledL b).length ≤ b.length + 15 := by simp [filledL]; omega
set_option maxRecDepth 100000 in
theorem filled (b : Bs) (hb : b.length ≤ 200000) (w : World) :
 Calls Tryz.prog 119 #[S b] w fun e w' => e = .returned (S (filledL b)) ∧ Pu w w' := by
 obtain ⟨r, hr⟩ : ∃ r, r = b.length % 16 := ⟨_, rfl⟩
 obtain ⟨z, hz⟩ : ∃ z, z = (16 - r) % 16 := ⟨_, rfl⟩
 have hfin : filledL b = b ++ List.replicate z 0 := by rw [filledL, ← hr, ← hz]
 have e1 : (b.length : Int).tmod 16 = r := by rw [Int.tmod_eq_emod_of_nonneg (by omega)]; omega
 have e1' : (b.length : Int) % 16 = r := by omega
 obtain ⟨d, hd⟩ : ∃ d, d = 16 - r := ⟨_, rfl⟩
 have e2 : (16 : Int) - r = d := by omega
 have e2' : IntKind.i64.wrap (d : Int) = d := by rw [IntKind.wrap_i64]; omega
 have e3 : (d : Int).tmod 16 = z := by rw [Int.tmod_eq_emod_of_nonneg (by omega)]; omega
 have e3' : (d : Int) % 16 = z := by omega
 have hR0 := fun w => rep 0 (z : Int) w (by omega) (by omega)
 rw [show (z : Int).toNat = z from rfl] at hR0
 obtain ⟨zz, hzz⟩ : ∃ l, l = List.replicate z (0 : UInt8) := ⟨_, rfl⟩
 have hzl : zz.length = z := by rw [hzz]; simp
 rw [← hzz] at hR0 hfin
 have hz9 : ¬ (9223372036854775807 < b.length + zz.length) := by omega
 have hz8 : ¬ (9223372036854775807 < b.length + z) := by omega
 have HR := Lib.hid hR0
 have HF := Lib.hid hfin
 clear hR0 hfin hr hz hd hzz
 go_enter Tryz.func119, Tryz.ntmps119
 go_wp2_with (go_at_call 68; refine (HR.out _).mono ?_; rintro e w1 ⟨rfl, hp1⟩)
 go_ret
 exact ⟨by rw [HF.out]; rfl, hp1⟩
set_option maxRecDepth 100000 in
set_option maxHeartbeats 1600000 in
theorem boxTagF (key nonce hidden more : Bs) (h : fineL key nonce = true) (hh : hidden.length ≤ 100000) (hm : more.length ≤ 100000) (w : World) :
 Calls Tryz.prog 70 #[S key, S nonce, S hidden, S more] w fun e w' => e = .returned (.tuple #[S (boxTag key nonce hidden more), .bool true]) ∧ Pu w w' := by
 have hB := fun w => streamBlock key nonce 0 h (by omega) w
 rw [show ((0 : Nat) : Int) = 0 from rfl] at hB
 obtain ⟨blk, hblk⟩ : ∃ l, l = blockL key 0 nonce := ⟨_, rfl⟩
 have hbl : blk.length = 64 := by rw [hblk, blockL_length]
 rw [← hblk] at hB
 have hP1 := fun w => putLittle (more.length : Int) 8 w (by omega) (by omega) (by omega)
 have hP2 := fun w => putLittle (hidden.length : Int) 8 w (by omega) (by omega) (by omega)
 rw [show ((more.length : Int)).toNat = more.length from rfl, show ((8 : Int)).toNat = 8 from rfl] at hP1
 rw [show ((hidden.length : Int)).toNat = hidden.length from rfl, show ((8 : Int)).toNat = 8 from rfl] at hP2
 obtain ⟨p1, hp1⟩ : ∃ l, l = putL more.length 8 := ⟨_, rfl⟩
 obtain ⟨p2, hp2⟩ : ∃ l, l = putL hidden.length 8 := ⟨_, rfl⟩
 have hp1l : p1.length = 8 := by rw [hp1, putL_length]
 have hp2l : p2.length = 8 := by rw [hp2, putL_length]
 rw [← hp1] at hP1
 rw [← hp2] at hP2
 have hF1 := fun w => filled more (by omega) w
 have hF2 := fun w => filled hidden (by omega) w
 have hfl1 := filledL_length more
 have hfl2 := filledL_length hidden
 obtain ⟨f1, hf1⟩ : ∃ l, l = filledL more := ⟨_, rfl⟩
 obtain ⟨f2, hf2⟩ : ∃ l, l = filledL hidden := ⟨_, rfl⟩
 rw [← hf1] at hF1 hfl1
 rw [← hf2] at hF2 hfl2
 obtain ⟨all, hall⟩ : ∃ l, l = f1 ++ (f2 ++ (p1 ++ p2)) := ⟨_, rfl⟩
 have hall' : f1 ++ (f2 ++ (p1 ++ p2)) = all := hall.symm
 have hal : all.length ≤ 300000 := by rw [hall]; simp; omega
 have hT := fun w => tagF (blk.take 32) all (by simp; omega) (by omega) w
 have hfin : boxTag key nonce hidden more = tagL (blk.take 32) all := by rw [boxTag, ← hblk, ← hf1, ← hf2, ← hp1, ← hp2, hall, List.append_assoc]
 have w1' : IntKind.u64.wrap (more.length : Int) = more.length := by rw [IntKind.wrap_u64]; omega
 have w2' : IntKind.u64.wrap (hidden.length : Int) = hidden.length := by rw [IntKind.wrap_u64]; omega
 have z1 : ¬ (9223372036854775807 < p1.length + p2.length) := by omega
 have z1b : ¬ (9223372036854775807 < 8 + 8) := by omega
 have z2 : ¬ (9223372036854775807 < f1.length + f2.length) := by omega
 have z3 : ¬ (9223372036854775807 < (f1.length + f2.length) + (p1 ++ p2).length) := by simp; omega
 have z4 : ¬ (9223372036854775807 < (f1.length + f2.length) + 16) := by omega
 have z5 : ¬ (9223372036854775807 < (f1.length + f2.length) + (8 + 8)) := by omega
 have z6 : ¬ (9223372036854775807 < f1.length + (f2.length + (8 + 8))) := by omega
 have HB := Lib.hid hB
 have HP1 := Lib.hid hP1
 have HP2 := Lib.hid hP2
 have HF1 := Lib.hid hF1
 have HF2 := Lib.hid hF2
 have HT := Lib.hid hT
 have HFIN := Lib.hid hfin
 clear h hB hP1 hP2 hF1 hF2 hT hfin hblk hp1 hp2 hf1 hf2 hall
 go_enter Tryz.func70, Tryz.ntmps70
 go_wp2_with (first
  | (go_at_call 116; refine (HB.out _).mono ?_; rintro e w1 ⟨rfl, hpu⟩; have hpu : Pu w w1 := hpu)
  | (go_at_call 117; first
     | (with_reducible refine (HP1.out _).mono ?_
        rintro e w2 ⟨rfl, hp⟩; replace hpu := Pu.trans hpu hp)
     | (with_reducible refine (HP2.out _).mono ?_
        rintro e w3 ⟨rfl, hp⟩; replace hpu := Pu.trans hpu hp)))
 have cF : ∀ args w, (callFunc 119 args).run Tryz.prog w = .ok (.enter 119 args) w := fun args w => run_callFunc_body Tryz.func119 (by kernel_rfl) (by kernel_rfl) args w
 have cT : ∀ args w, (callFunc 118 args).run Tryz.prog w = .ok (.enter 118 args) w := fun args w => run_callFunc_body Tryz.func118 (by kernel_rfl) (by kernel_rfl) args w
 apply region_pu (Φs := (Is _ :: Is _ :: Is _ :: Is _ :: Is _ :: Is _ :: Is _ :: Is _ :: Is _ :: Is _ :: Is _ :: Is _ :: Is _ :: Is _ :: [])) (hm := by kernel_rfl) (hE := by kernel_rfl) (hD := by kernel_rfl) (hsize := by kernel_rfl)
 case hop =>
  refine ⟨?_, ?_, ?_, ?_, ?_, ?_, ?_, ?_, ?_, ?_, ?_, ?_, ?_, ?_, trivial⟩
  · intro a' w' hs hp he
    have e10 := hs 10 (by kernel_rfl)
    try simp [Is, Region.binds] at he
    exact op_v
  · intro a' w' hs hp he
    try simp [Is, Region.binds] at he
    exact op_v
  · intro a' w' hs hp he
    have e3 := hs 3 (by kernel_rfl)
    try simp [Is, Region.binds] at he
    exact op_v
  · intro a' w' hs hp he
    try simp [Is, Region.binds] at he
    exact op_callP (HF1.out _) rfl (wanted_none rfl) (by first | (go_simp; done) | (go_simp; rfl)) (fun _ => rfl)
  · intro a' w' hs hp he
    have e2 := hs 2 (by kernel_rfl)
    try simp [Is, Region.binds] at he
    exact op_v
  · intro a' w' hs hp he
    try simp [Is, Region.binds] at he
    exact op_callP (HF2.out _) rfl (wanted_none rfl) (by first | (go_simp; done) | (go_simp; rfl)) (fun _ => rfl)
  · intro a' w' hs hp he
    try simp [Is, Region.binds] at he
    exact op_v
  · intro a' w' hs hp he
    have e12 := hs 12 (by kernel_rfl)
    try simp [Is, Region.binds] at he
    exact op_v
  · intro a' w' hs hp he
    try simp [Is, Region.binds] at he
    exact op_v
  · intro a' w' hs hp he
    try simp [Is, Region.binds] at he
    exact op_callP (HT.out _) rfl (wanted_none rfl) (by first | (go_simp; done) | (go_simp; rfl)) (fun _ => rfl)
  · intro a' w' hs hp he
    try simp [Is, Region.binds] at he
    exact op_v
  · intro a' w' hs hp he
    try simp [Is, Region.binds] at he
    exact op_v
  · intro a' w' hs hp he
    try simp [Is, Region.binds] at he
    exact op_v
  · intro a' w' hs hp he
    try simp [Is, Region.binds] at he
    exact op_v
 case hend =>
  intro a' w' hdef hsz hs hp hall
  obtain ⟨r0, r1, r2, r3, r4, r5, r6, r7, r8, r9, r10, r11, r12, r13, -⟩ := hall
  have hA := agree_done (agree_step (agree_step (agree_step (agree_step (agree_step (agree_step (agree_step (agree_step (agree_step (agree_step (agree_step (agree_step (agree_step (agree_step (agree_init [30, 31, 32, 33, 34, 35, 36, 37, 38, 39, 40, 41, 8, 9] hsz hs (by kernel_rfl)) r0) r1) r2) r3) r4) r5) r6) r7) r8) r9) r10) r11) r12) r13)
  have ha := act_of hA hdef
  rw [ha]
  clear ha hA hs hsz hdef r0 r1 r2 r3 r4 r5 r6 r7 r8 r9 r10 r11 r12 r13 
  (try simp only [List.setIfInBounds_toArray])
  (try dsimp only [List.set_cons_zero, List.set_cons_succ])
  (try simp only [Exit.then])
  go_wp2_with fail
  go_ret2
  exact ⟨by rw [HFIN.out]; rfl, Pu.trans hpu hp⟩
theorem boxTagF_no (key nonce hidden more : Bs) (h : fineL key nonce = false) (w : World) :
 Calls Tryz.prog 70 #[S key, S nonce, S hidden, S more] w fun e w' => e = .returned (.tuple #[S [], .bool false]) ∧ w' = w := by
 have hB := fun w => streamBlock_no key nonce 0 h w
 rw [show ((0 : Nat) : Int) = 0 from rfl] at hB
 have HB := Lib.hid hB
 clear h hB
 go_enter Tryz.func70, Tryz.ntmps70
 go_wp2_with (go_at_call 116; refine (HB.out _).mono ?_; rintro e w1 ⟨rfl, hw1⟩; subst w1)
 go_ret2
 exact ⟨rfl, rfl⟩
set_option maxHeartbeats 1600000 in
theorem sealYes (key nonce plain more : Bs) (h : fineL key nonce = true) (hh : plain.length ≤ 90000) (hm : more.length ≤ 100000) (w : World) :
 Calls Tryz.prog 21 #[S key, S nonce, S plain, S more] w fun e w' => e = .returned (.tuple #[S (sealL key nonce plain more), .bool true]) ∧ Pu w w' := by
 have hX := fun w => streamXor key nonce plain 1 h (by omega) (by omega) w
 rw [show ((1 : Nat) : Int) = 1 from rfl] at hX
 have hcl := streamL_length key 1 nonce plain
 obtain ⟨c, hc⟩ : ∃ l, l = streamL key 1 nonce plain := ⟨_, rfl⟩
 rw [← hc] at hX hcl
 have hT := fun w => boxTagF key nonce c more h (by omega) hm w
 have htl := boxTag_length key nonce c more
 obtain ⟨t, ht⟩ : ∃ l, l = boxTag key nonce c more := ⟨_, rfl⟩
 rw [← ht] at hT htl
 have hfin : sealL key nonce plain more = c ++ t := by rw [ht, hc]; rfl
 have z1 : ¬ (9223372036854775807 < c.length + t.length) := by omega
 have z2 : ¬ (9223372036854775807 < plain.length + 16) := by omega
 have HX := Lib.hid hX
 have HT := Lib.hid hT
 have HF := Lib.hid hfin
 clear h hX hT hfin hc ht
 go_enter Tryz.func21, Tryz.ntmps21
 go_wp2_with (first
  | (go_at_call 69; refine (HX.out _).mono ?_; rintro e w1 ⟨rfl, hp1⟩)
  | (go_at_call 70; refine (HT.out _).mono ?_; rintro e w2 ⟨rfl, hp2⟩))
 go_ret2
 exact ⟨by rw [HF.out]; rfl, Pu.trans hp1 hp2⟩
theorem sealNo (key nonce plain more : Bs) (h : fineL key nonce = false) (w : World) :
 Calls Tryz.prog 21 #[S key, S nonce, S plain, S more] w fun e w' => e = .returned (.tuple #[S [], .bool false]) ∧ w' = w := by
 have hX := fun w => streamXor_no key nonce plain 1 h w
 rw [show ((1 : Nat) : Int) = 1 from rfl] at hX
 have HX := Lib.hid hX
 clear h hX
 go_enter Tryz.func21, Tryz.ntmps21
 go_wp2_with (go_at_call 69; refine (HX.out _).mono ?_; rintro e w1 ⟨rfl, hw1⟩; subst w1)
 go_ret2
 exact ⟨rfl, rfl⟩
set_option maxRecDepth 100000 in
theorem addI32 (a : Addr) (x : Int) (w : World) (hx : 0 ≤ x ∧ x < 1000000000) (hc : w.cell? a = some (.int .i32 x)) (hz : w.frozen? a = false) :
 Calls Tryz.prog 130 #[.pointer (some a), .int .i32 1] w fun e w' => e = .returned (.int .i32 (x + 1)) ∧ w' = w.setCell a (.int .i32 (x + 1)) := by
 have hs : (Op.intArith .add .i32 x 1).run Tryz.prog w = .ok (.int .i32 (x + 1)) w := by
  have : IntKind.i32.wrap (x + 1) = x + 1 := by rw [IntKind.wrap_i32]; omega
  show (Sem.pure (Value.int .i32 (IntKind.i32.wrap (x + 1)))).run _ w = _
  rw [this]; rfl
 have hadd := run_call_add (P := Tryz.prog) Tryz.func159 (by kernel_rfl) (by kernel_rfl) (by kernel_rfl) .i32 (by kernel_rfl) (y := 1) hc hz hs
 go_enter Tryz.func130, Tryz.ntmps130
 go_wp2_with fail
 go_ret
 exact ⟨rfl, rfl⟩
set_option maxRecDepth 100000 in
theorem loadI32 (a : Addr) (x : Int) (w : World) (hc : w.cell? a = some (.int .i32 x)) :
 Calls Tryz.prog 132 #[.pointer (some a)] w fun e w' => e = .returned (.int .i32 x) ∧ w' = w := by
 have hl := run_call_load (P := Tryz.prog) Tryz.func160 (by kernel_rfl) (by kernel_rfl) (by kernel_rfl) .i32 (by kernel_rfl) hc
 go_enter Tryz.func132, Tryz.ntmps132
 go_wp2_with fail
 go_ret
 exact ⟨rfl, rfl⟩
end Go.Proofs.YtoakccknimoogaaGreat
