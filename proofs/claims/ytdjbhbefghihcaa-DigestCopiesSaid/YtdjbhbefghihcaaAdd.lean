/- (*Digest).add. -/
import Derived.Test.YtdjbhbefghihcaaDigest
import Derived.Test.YtdjbhbefghihcaaBlocks
import Derived.Test.YtdjbhbefghihcaaRegionM
set_option linter.unusedSimpArgs false
set_option linter.unusedVariables false
namespace Go.Proofs.Ytdjbhbefghihcaa
open Go.RowKit Go.Esc
/-- The cells of a digest of which so much is told. -/
def dcells (begun : Bool) (ws : List Value) (rest : Bs) (n : Int) : List Value := .bool begun :: (ws ++ [S rest, .int .i64 n])
def zero8 : List Value := List.replicate 8 (.int .u32 0)
/-- xs are the cells of a digest of the bytes l. -/
def IsDig (xs : List Value) (l : Bs) : Prop := (l = [] ∧ xs = dcells false zero8 [] 0) ∨ xs = dcells true (vs (wordsOf l).l) (restOf l) l.length
theorem dcells_length (b : Bool) (ws : List Value) (h : ws.length = 8) (r : Bs) (n : Int) : (dcells b ws r n).length = 11 := by simp [dcells, h]
theorem dcells_get (b : Bool) (ws : List Value) (h : ws.length = 8) (r : Bs) (n : Int) {w : World} {g : Nat} {e : TypeId} (hr : Row w g e (dcells b ws r n)) :
    w.cell? ⟨g, 0, none⟩ = some (.bool b) ∧ w.cell? ⟨g, 9, none⟩ = some (S r) ∧ w.cell? ⟨g, 10, none⟩ = some (.int .i64 n) := by
  have hl := dcells_length b ws h r n
  refine ⟨hr.cell 0 (by omega), ?_, ?_⟩
  · rw [hr.cell' 9 (by omega)]; simp [dcells, List.getElem?_append_right, h]
  · rw [hr.cell' 10 (by omega)]; simp [dcells, List.getElem?_append_right, h]
theorem dcells_set0 (b b2 : Bool) (ws : List Value) (r : Bs) (n : Int) : (dcells b ws r n).set 0 (.bool b2) = dcells b2 ws r n := rfl
theorem dcells_set9 (b : Bool) (ws : List Value) (h : ws.length = 8) (r r2 : Bs) (n : Int) : (dcells b ws r n).set 9 (S r2) = dcells b ws r2 n := by
  match ws, h with
  | [a, b, c, d, e, f, g, h], _ => rfl
theorem dcells_set10 (b : Bool) (ws : List Value) (h : ws.length = 8) (r : Bs) (n n2 : Int) : (dcells b ws r n).set 10 (.int .i64 n2) = dcells b ws r n2 := by
  match ws, h with
  | [a, b, c, d, e, f, g, h], _ => rfl
theorem dcells_splice (b : Bool) (ws vs2 : List Value) (h : ws.length = 8) (h2 : vs2.length = 8) (r : Bs) (n : Int) : splice (dcells b ws r n) 1 vs2 = dcells b vs2 r n := by
  match ws, h, vs2, h2 with
  | [a, b, c, d, e, f, g, h], _, [a2, b2, c2, d2, e2, f2, g2, h2], _ => rfl
theorem dcells_words (b : Bool) (ws : List Value) (h : ws.length = 8) (r : Bs) (n : Int) : ((dcells b ws r n).drop 1).take 8 = ws := by
  simp [dcells, h]
theorem But.chg {g : Nat} {w w' : World} (h : Chg g w w') : But g w w' := ⟨h.os, h.tape, h.output, Nat.le_of_eq h.size.symm, fun k _ hk => h.block k hk⟩
theorem table_first : (tableCells.drop 67).take 8 = vs hTab := by kernel_rfl
theorem tableCells_length : tableCells.length = 75 := rfl
set_option maxRecDepth 100000 in
set_option maxHeartbeats 1600000 in
theorem add (db tb : Nat) (de te : TypeId) (hne : tb ≠ db) (l b : Bs) (hl : l.length + b.length ≤ 1000000) (xs : List Value) (hx : IsDig xs l) (w : World) (hd : Row w db de xs) (ht : Row w tb te tableCells) :
    Calls Try.prog 83 #[.pointer (some ⟨db, 0, none⟩), .pointer (some ⟨tb, 0, none⟩), S b] w fun e w' => e = .returned (.tuple #[]) ∧ But db w w' ∧ Row w' db de (dcells true (vs (wordsOf (l ++ b)).l) (restOf (l ++ b)) (l ++ b).length) := by
  have hi8 : (Try.prog.info? 36).map (·.size) = some 8 := by kernel_rfl
  have hvl : ∀ s : St, (vs s.l).length = 8 := fun _ => rfl
  have hvo : ∀ s : St, (vs s.l).all (·.oneCell') = true := fun _ => rfl
  have hz8 : zero8.length = 8 := rfl
  have htl := tableCells_length
  have HT := Lib.hid ht
  obtain ⟨l0, hl0⟩ : ∃ v, v = vs hTab := ⟨_, rfl⟩
  have hw0 : l = [] → l0 = vs (wordsOf l).l := by rintro rfl; rw [hl0]; rfl
  have hl08 : l0.length = 8 := by rw [hl0]; rfl
  have hl0o : l0.all (·.oneCell') = true := by rw [hl0]; rfl
  have htf : (tableCells.drop 67).take 8 = l0 := by rw [hl0]; exact table_first
  have HL0 := Lib.hid hl0
  have HW0 := Lib.hid hw0
  clear hl0 ht hw0
  rcases hx with ⟨hnil, hxs⟩ | hxs
  · rw [hxs] at hd
    have HNIL := Lib.hid hnil
    obtain ⟨c0, c9, c10⟩ := dcells_get _ _ hz8 _ _ hd
    have f0 := hd.frozen 0 (by rw [dcells_length _ _ hz8]; omega)
    clear hxs hnil
    go_enter Try.func83, Try.ntmps83
    go_wp2_with (first
      | (refine wpList_load_part rfl 36 (.tmp 15) rfl tb 67 8 (by rfl) HT.out Try.underlying36 rfl hi8 (by rw [tableCells_length]; omega) ?_; rw [htf])
      | (refine wpList_store_part rfl 36 (.tmp 20) (.tmp 16) rfl db 1 l0 (by rfl) (by rfl) (hd.set 0 (.bool true)) (by rw [hl08]; exact hi8) (by rw [hl08, List.length_set, dcells_length _ _ hz8]; omega) hl0o ?_; intro w1 hd1 hch1; rw [dcells_set0, dcells_splice _ _ _ hz8 hl08] at hd1; obtain ⟨c0', c9', c10'⟩ := dcells_get _ _ hl08 _ _ hd1; have f10 := hd1.frozen 10 (by rw [dcells_length _ _ hl08]; omega); clear c0 c9 c10 f0))
    obtain ⟨m, hm⟩ : ∃ m, m = l ++ b := ⟨_, rfl⟩
    have hml : m.length = l.length + b.length := by rw [hm, List.length_append]
    have hd2 := hd1.set 10 (.int .i64 (m.length : Int))
    rw [dcells_set10 _ _ hl08] at hd2
    have htab : Row w tb te tableCells := HT.out
    have hch := hch1
    go_loopw [2] (fun v wr => ∃ k : Nat, l.length / 64 ≤ k ∧ 64 * k ≤ m.length ∧ v = S (m.drop (64 * k)) ∧ Row wr db de (dcells true (vs (blocks initS m k).l) (restOf l) m.length) ∧ Row wr tb te tableCells ∧ But db w wr) (fun v _ => match v with | .string s => s.size | _ => 0)
    case atStart =>
      have hnil := HNIL.out
      subst hnil
      rw [HW0.out rfl] at hd2
      subst hm
      exact ⟨0, by simp, by omega, by simp, hd2, ((hch.row (htab.setOther ⟨db, 0, none⟩ _ hne) hne).setOther ⟨db, 10, none⟩ _ hne), ((But.set w 0 (.bool true)).trans (But.chg hch)).trans (But.set _ _ _)⟩
    case round =>
      have HMM := Lib.hid hm
      have HML := Lib.hid hml
      try clear hch
      try clear hd1
      try clear hch1
      try clear htab
      clear hd2 hm hml
      obtain ⟨k, hk1, hk2, rfl, hr, htb, hbut⟩ := hrel
      obtain ⟨cur, hcur⟩ : ∃ c, c = m.drop (64 * k) := ⟨_, rfl⟩
      have hcl : cur.length = m.length - 64 * k := by rw [hcur, List.length_drop]
      rw [← hcur]
      by_cases hlt : 64 ≤ cur.length
      · have h64 : (64 : Int) ≤ cur.length := by omega
        have h64' : decide ((64 : Int) ≤ cur.length) = true := by simp; omega
        obtain ⟨ol, hol⟩ : ∃ v, v = vs (blocks initS m k).l := ⟨_, rfl⟩
        obtain ⟨nl, hnl⟩ : ∃ v, v = vs (comp (blocks initS m k) (cur.take 64)).l := ⟨_, rfl⟩
        have hol8 : ol.length = 8 := by rw [hol]; rfl
        have hnl8 : nl.length = 8 := by rw [hnl]; rfl
        have hnlo : nl.all (·.oneCell') = true := by rw [hnl]; rfl
        have hM : ∀ w, Row w tb te tableCells → Calls Try.prog 106 #[.pointer (some ⟨tb, 0, none⟩), .agg ol.toArray, S (cur.take 64)] w fun e w' => e = .returned (.agg nl.toArray) ∧ Pu w w' := fun w ht => (mix tb te _ ol hol (cur.take 64) (by simp; omega) w ht).mono (by rintro e w' ⟨l2, h2, rfl, hp⟩; rw [← hnl] at h2; subst h2; exact ⟨rfl, hp⟩)
        have HM := Lib.hid hM
        rw [← hol] at hr
        have HOL := Lib.hid hol
        have HNL := Lib.hid hnl
        have HCUR := Lib.hid hcur
        have hcall : ∀ args w, (callFunc 106 args).run Try.prog w = .ok (.enter 106 args) w := fun args w => run_callFunc_body Try.func106 (by kernel_rfl) (by kernel_rfl) args w
        have h8' : 1 + 8 ≤ (dcells true ol (restOf l) (m.length : Int)).length := by rw [dcells_length _ _ hol8]; omega
        clear hM hol hnl hcur
        go_wp2_with fail
        apply region_last (n := 11) (hn := by kernel_rfl) (hlast := rfl) (hU := by kernel_rfl) (Φs := (Is _ :: Is _ :: Is _ :: Is _ :: Is _ :: Is _ :: Is _ :: Is _ :: Is _ :: Is _ :: Is _ :: [])) (hm := by kernel_rfl) (hE := by kernel_rfl) (hD := by kernel_rfl) (hsize := by kernel_rfl)
        case hop =>
          refine ⟨?_, ?_, ?_, ?_, ?_, ?_, ?_, ?_, ?_, ?_, ?_, trivial⟩
          · intro a' w' hs hp he
            have e0 := hs 0 (by kernel_rfl)
            try simp [Is, Region.binds] at he
            exact op_val rfl (wanted_none rfl) (by first | (go_simp; done) | (go_simp; rfl) | (simp [execOp, Act.eval, go_sem, *]; done) | (simp [execOp, Act.eval, go_sem, *]; rfl)) rfl (Pu.refl _)
          · intro a' w' hs hp he
            have e1 := hs 1 (by kernel_rfl)
            try simp [Is, Region.binds] at he
            exact op_val rfl (wanted_none rfl) (by first | (go_simp; done) | (go_simp; rfl) | (simp [execOp, Act.eval, go_sem, *]; done) | (simp [execOp, Act.eval, go_sem, *]; rfl)) rfl (Pu.refl _)
          · intro a' w' hs hp he
            have e0 := hs 0 (by kernel_rfl)
            try simp [Is, Region.binds] at he
            exact op_val rfl (wanted_none rfl) (by first | (go_simp; done) | (go_simp; rfl) | (simp [execOp, Act.eval, go_sem, *]; done) | (simp [execOp, Act.eval, go_sem, *]; rfl)) rfl (Pu.refl _)
          · intro a' w' hs hp he
            try simp [Is, Region.binds] at he
            exact op_val rfl (wanted_none rfl) (by first | (go_simp; done) | (go_simp; rfl) | (simp [execOp, Act.eval, go_sem, *]; done) | (simp [execOp, Act.eval, go_sem, *]; rfl)) rfl (Pu.refl _)
          · intro a' w' hs hp he
            try simp [Is, Region.binds] at he
            exact op_val rfl (wanted_none rfl) (by first | (go_simp; done) | (go_simp; rfl) | (simp [execOp, Act.eval, go_sem, *]; done) | (simp [execOp, Act.eval, go_sem, *]; rfl)) rfl (Pu.refl _)
          · intro a' w' hs hp he
            try simp [Is, Region.binds] at he
            have hlo := (hr.pu hp).load (P := Try.prog) 36 1 8 Try.underlying36 rfl hi8 h8'; rw [dcells_words _ _ hol8] at hlo; exact op_load rfl rfl 36 (.tmp 43) rfl ⟨db, 1, none⟩ (by simp [Act.eval, he]) hlo rfl
          · intro a' w' hs hp he
            have e2 := hs 2 (by kernel_rfl)
            try simp [Is, Region.binds] at he
            exact op_val rfl (wanted_none rfl) (by first | (go_simp; done) | (go_simp; rfl) | (simp [execOp, Act.eval, go_sem, *]; done) | (simp [execOp, Act.eval, go_sem, *]; rfl)) rfl (Pu.refl _)
          · intro a' w' hs hp he
            try simp [Is, Region.binds] at he
            exact op_val rfl (wanted_none rfl) (by first | (go_simp; done) | (go_simp; rfl) | (simp [execOp, Act.eval, go_sem, *]; done) | (simp [execOp, Act.eval, go_sem, *]; rfl)) rfl (Pu.refl _)
          · intro a' w' hs hp he
            try simp [Is, Region.binds] at he
            exact op_callP (HM.out _ (htb.pu hp)) rfl (wanted_none rfl) (by first | (go_simp; done) | (go_simp; rfl)) (fun _ => rfl)
          · intro a' w' hs hp he
            try simp [Is, Region.binds] at he
            exact op_val rfl (wanted_none rfl) (by first | (go_simp; done) | (go_simp; rfl) | (simp [execOp, Act.eval, go_sem, *]; done) | (simp [execOp, Act.eval, go_sem, *]; rfl)) rfl (Pu.refl _)
          · intro a' w' hs hp he
            try simp [Is, Region.binds] at he
            exact op_val rfl (wanted_none rfl) (by first | (go_simp; done) | (go_simp; rfl) | (simp [execOp, Act.eval, go_sem, *]; done) | (simp [execOp, Act.eval, go_sem, *]; rfl)) rfl (Pu.refl _)
        case hend =>
          intro a' w' hdef hsz hs hp hall
          obtain ⟨r0, r1, r2, r3, r4, r5, r6, r7, r8, r9, r10, -⟩ := hall
          have hA := agree_done (agree_step (agree_step (agree_step (agree_step (agree_step (agree_step (agree_step (agree_step (agree_step (agree_step (agree_step (agree_init [39, 40, 41, 42, 43, 44, 45, 46, 47, 48, 49] hsz hs (by kernel_rfl)) r0) r1) r2) r3) r4) r5) r6) r7) r8) r9) r10)
          have ha := act_of hA hdef
          rw [ha]
          clear ha hA hs hsz hdef r0 r1 r2 r3 r4 r5 r6 r7 r8 r9 r10 
          (try simp only [List.setIfInBounds_toArray])
          (try dsimp only [List.set_cons_zero, List.set_cons_succ])
          (try simp only [Exit.then])
          have hst := (hr.pu hp).store (P := Try.prog) 36 1 nl (by rw [hnl8]; exact hi8) (by rw [hnl8]; exact h8') hnlo; refine op_store rfl rfl 36 (.tmp 49) (.tmp 47) rfl ⟨db, 1, none⟩ (by rfl) (by rfl) hst ?_
          (try simp only [Exit.inBlock, Exit.then])
          go_wp2_with fail
          go_roundw
          case rel =>
            have hr2 := Row.setCells nl 1 w' _ (hr.pu hp)
            rw [dcells_splice _ _ _ hol8 hnl8] at hr2
            have hbs := blocks_snoc k initS m
            rw [← HCUR.out] at hbs
            have enl : vs (blocks initS m (k + 1)).l = nl := by rw [HNL.out, hbs]
            have hr3 : Row (w'.setCells db 1 nl) db de (dcells true (vs (blocks initS m (k + 1)).l) (restOf l) (m.length : Int)) := by rw [enl]; exact hr2
            have hch2 := Chg.setCells db nl 1 w'
            refine ⟨k + 1, by omega, by omega, ?_, hr3, hch2.row (htb.pu hp) hne, (hbut.trans (But.pu hp)).trans (But.chg hch2)⟩
            rw [HCUR.out, List.take_of_length_le (by rw [List.length_drop]; exact Nat.le_refl _), List.drop_drop, Nat.mul_add]
          case measure => simp; omega
      · have hk : k = m.length / 64 := by omega
        have h64 : decide ((64 : Int) ≤ cur.length) = false := by simp; omega
        have h64n : ¬ ((64 : Int) ≤ cur.length) := by omega
        have hcl2 : cur.length ≤ 281474976710656 := by omega
        have hv8 : (vs (blocks initS m k).l).length = 8 := rfl
        obtain ⟨ol, hol⟩ : ∃ v, v = vs (blocks initS m k).l := ⟨_, rfl⟩
        rw [← hol] at hr hv8
        have HOL := Lib.hid hol
        have HCUR := Lib.hid hcur
        have HK := Lib.hid hk
        have HCL := Lib.hid hcl
        clear hol hcur hk hcl
        go_wp2_with (go_at_call 107; refine (clone cur hcl2 _).mono ?_; rintro e w3 ⟨rfl, hp3⟩; replace hr := hr.pu hp3; obtain ⟨d0, d9, d10⟩ := dcells_get _ _ hv8 _ _ hr; have f9 := hr.frozen 9 (by rw [dcells_length _ _ hv8]; omega))
        go_end0
        have hr3 := hr.set 9 (S cur)
        rw [dcells_set9 _ _ hv8] at hr3
        have e1 : restOf m = cur := by rw [HCUR.out, HK.out]; rfl
        have e2 : vs (wordsOf m).l = ol := by rw [HOL.out, HK.out]; rfl
        rw [← HMM.out, e1, e2]
        exact ⟨rfl, (hbut.trans (But.pu hp3)).trans (But.set _ _ _), hr3⟩
  · obtain ⟨ws0, hws0⟩ : ∃ v, v = vs (wordsOf l).l := ⟨_, rfl⟩
    rw [hxs, ← hws0] at hd
    have hws8 : ws0.length = 8 := by rw [hws0]; rfl
    have HWS := Lib.hid hws0
    clear hws0 hxs
    obtain ⟨c0, c9, c10⟩ := dcells_get _ _ hws8 _ _ hd
    have f10 := hd.frozen 10 (by rw [dcells_length _ _ hws8]; omega)
    obtain ⟨m, hm⟩ : ∃ m, m = l ++ b := ⟨_, rfl⟩
    have hml : m.length = l.length + b.length := by rw [hm, List.length_append]
    have hra : restOf l ++ b = m.drop (64 * (l.length / 64)) := by rw [hm]; exact rest_append l b
    have HRA := Lib.hid hra
    have hwa : ws0 = vs (blocks initS m (l.length / 64)).l := by rw [HWS.out, hm, words_append l b]
    have HWA := Lib.hid hwa
    have hd2 := hd.set 10 (.int .i64 (m.length : Int))
    rw [dcells_set10 _ _ hws8, hwa] at hd2
    obtain ⟨rl, hrl⟩ : ∃ r, r = restOf l := ⟨_, rfl⟩
    rw [← hrl] at c9
    have hrl' : rl.length ≤ 1000000 := by rw [hrl, restOf_length]; omega
    have HRL := Lib.hid hrl
    clear hra hwa hrl
    go_enter Try.func83, Try.ntmps83
    go_wp2_with fail
    have htab : Row w tb te tableCells := HT.out
    go_loopw [2] (fun v wr => ∃ k : Nat, l.length / 64 ≤ k ∧ 64 * k ≤ m.length ∧ v = S (m.drop (64 * k)) ∧ Row wr db de (dcells true (vs (blocks initS m k).l) (restOf l) m.length) ∧ Row wr tb te tableCells ∧ But db w wr) (fun v _ => match v with | .string s => s.size | _ => 0)
    case atStart =>
      refine ⟨l.length / 64, Nat.le_refl _, by omega, ?_, ?_, ?_, ?_⟩
      · rw [← HRA.out, ← HRL.out]
      · rw [hml] at hd2 ⊢; exact hd2
      · exact htab.setOther ⟨db, 10, none⟩ _ hne
      · exact But.set _ _ _
    case round =>
      have HMM := Lib.hid hm
      have HML := Lib.hid hml
      try clear hch
      try clear hd1
      try clear hch1
      try clear htab
      clear hd2 hm hml
      obtain ⟨k, hk1, hk2, rfl, hr, htb, hbut⟩ := hrel
      obtain ⟨cur, hcur⟩ : ∃ c, c = m.drop (64 * k) := ⟨_, rfl⟩
      have hcl : cur.length = m.length - 64 * k := by rw [hcur, List.length_drop]
      rw [← hcur]
      by_cases hlt : 64 ≤ cur.length
      · have h64 : (64 : Int) ≤ cur.length := by omega
        have h64' : decide ((64 : Int) ≤ cur.length) = true := by simp; omega
        obtain ⟨ol, hol⟩ : ∃ v, v = vs (blocks initS m k).l := ⟨_, rfl⟩
        obtain ⟨nl, hnl⟩ : ∃ v, v = vs (comp (blocks initS m k) (cur.take 64)).l := ⟨_, rfl⟩
        have hol8 : ol.length = 8 := by rw [hol]; rfl
        have hnl8 : nl.length = 8 := by rw [hnl]; rfl
        have hnlo : nl.all (·.oneCell') = true := by rw [hnl]; rfl
        have hM : ∀ w, Row w tb te tableCells → Calls Try.prog 106 #[.pointer (some ⟨tb, 0, none⟩), .agg ol.toArray, S (cur.take 64)] w fun e w' => e = .returned (.agg nl.toArray) ∧ Pu w w' := fun w ht => (mix tb te _ ol hol (cur.take 64) (by simp; omega) w ht).mono (by rintro e w' ⟨l2, h2, rfl, hp⟩; rw [← hnl] at h2; subst h2; exact ⟨rfl, hp⟩)
        have HM := Lib.hid hM
        rw [← hol] at hr
        have HOL := Lib.hid hol
        have HNL := Lib.hid hnl
        have HCUR := Lib.hid hcur
        have hcall : ∀ args w, (callFunc 106 args).run Try.prog w = .ok (.enter 106 args) w := fun args w => run_callFunc_body Try.func106 (by kernel_rfl) (by kernel_rfl) args w
        have h8' : 1 + 8 ≤ (dcells true ol (restOf l) (m.length : Int)).length := by rw [dcells_length _ _ hol8]; omega
        clear hM hol hnl hcur
        go_wp2_with fail
        apply region_last (n := 11) (hn := by kernel_rfl) (hlast := rfl) (hU := by kernel_rfl) (Φs := (Is _ :: Is _ :: Is _ :: Is _ :: Is _ :: Is _ :: Is _ :: Is _ :: Is _ :: Is _ :: Is _ :: [])) (hm := by kernel_rfl) (hE := by kernel_rfl) (hD := by kernel_rfl) (hsize := by kernel_rfl)
        case hop =>
          refine ⟨?_, ?_, ?_, ?_, ?_, ?_, ?_, ?_, ?_, ?_, ?_, trivial⟩
          · intro a' w' hs hp he
            have e0 := hs 0 (by kernel_rfl)
            try simp [Is, Region.binds] at he
            exact op_val rfl (wanted_none rfl) (by first | (go_simp; done) | (go_simp; rfl) | (simp [execOp, Act.eval, go_sem, *]; done) | (simp [execOp, Act.eval, go_sem, *]; rfl)) rfl (Pu.refl _)
          · intro a' w' hs hp he
            have e1 := hs 1 (by kernel_rfl)
            try simp [Is, Region.binds] at he
            exact op_val rfl (wanted_none rfl) (by first | (go_simp; done) | (go_simp; rfl) | (simp [execOp, Act.eval, go_sem, *]; done) | (simp [execOp, Act.eval, go_sem, *]; rfl)) rfl (Pu.refl _)
          · intro a' w' hs hp he
            have e0 := hs 0 (by kernel_rfl)
            try simp [Is, Region.binds] at he
            exact op_val rfl (wanted_none rfl) (by first | (go_simp; done) | (go_simp; rfl) | (simp [execOp, Act.eval, go_sem, *]; done) | (simp [execOp, Act.eval, go_sem, *]; rfl)) rfl (Pu.refl _)
          · intro a' w' hs hp he
            try simp [Is, Region.binds] at he
            exact op_val rfl (wanted_none rfl) (by first | (go_simp; done) | (go_simp; rfl) | (simp [execOp, Act.eval, go_sem, *]; done) | (simp [execOp, Act.eval, go_sem, *]; rfl)) rfl (Pu.refl _)
          · intro a' w' hs hp he
            try simp [Is, Region.binds] at he
            exact op_val rfl (wanted_none rfl) (by first | (go_simp; done) | (go_simp; rfl) | (simp [execOp, Act.eval, go_sem, *]; done) | (simp [execOp, Act.eval, go_sem, *]; rfl)) rfl (Pu.refl _)
          · intro a' w' hs hp he
            try simp [Is, Region.binds] at he
            have hlo := (hr.pu hp).load (P := Try.prog) 36 1 8 Try.underlying36 rfl hi8 h8'; rw [dcells_words _ _ hol8] at hlo; exact op_load rfl rfl 36 (.tmp 43) rfl ⟨db, 1, none⟩ (by simp [Act.eval, he]) hlo rfl
          · intro a' w' hs hp he
            have e2 := hs 2 (by kernel_rfl)
            try simp [Is, Region.binds] at he
            exact op_val rfl (wanted_none rfl) (by first | (go_simp; done) | (go_simp; rfl) | (simp [execOp, Act.eval, go_sem, *]; done) | (simp [execOp, Act.eval, go_sem, *]; rfl)) rfl (Pu.refl _)
          · intro a' w' hs hp he
            try simp [Is, Region.binds] at he
            exact op_val rfl (wanted_none rfl) (by first | (go_simp; done) | (go_simp; rfl) | (simp [execOp, Act.eval, go_sem, *]; done) | (simp [execOp, Act.eval, go_sem, *]; rfl)) rfl (Pu.refl _)
          · intro a' w' hs hp he
            try simp [Is, Region.binds] at he
            exact op_callP (HM.out _ (htb.pu hp)) rfl (wanted_none rfl) (by first | (go_simp; done) | (go_simp; rfl)) (fun _ => rfl)
          · intro a' w' hs hp he
            try simp [Is, Region.binds] at he
            exact op_val rfl (wanted_none rfl) (by first | (go_simp; done) | (go_simp; rfl) | (simp [execOp, Act.eval, go_sem, *]; done) | (simp [execOp, Act.eval, go_sem, *]; rfl)) rfl (Pu.refl _)
          · intro a' w' hs hp he
            try simp [Is, Region.binds] at he
            exact op_val rfl (wanted_none rfl) (by first | (go_simp; done) | (go_simp; rfl) | (simp [execOp, Act.eval, go_sem, *]; done) | (simp [execOp, Act.eval, go_sem, *]; rfl)) rfl (Pu.refl _)
        case hend =>
          intro a' w' hdef hsz hs hp hall
          obtain ⟨r0, r1, r2, r3, r4, r5, r6, r7, r8, r9, r10, -⟩ := hall
          have hA := agree_done (agree_step (agree_step (agree_step (agree_step (agree_step (agree_step (agree_step (agree_step (agree_step (agree_step (agree_step (agree_init [39, 40, 41, 42, 43, 44, 45, 46, 47, 48, 49] hsz hs (by kernel_rfl)) r0) r1) r2) r3) r4) r5) r6) r7) r8) r9) r10)
          have ha := act_of hA hdef
          rw [ha]
          clear ha hA hs hsz hdef r0 r1 r2 r3 r4 r5 r6 r7 r8 r9 r10 
          (try simp only [List.setIfInBounds_toArray])
          (try dsimp only [List.set_cons_zero, List.set_cons_succ])
          (try simp only [Exit.then])
          have hst := (hr.pu hp).store (P := Try.prog) 36 1 nl (by rw [hnl8]; exact hi8) (by rw [hnl8]; exact h8') hnlo; refine op_store rfl rfl 36 (.tmp 49) (.tmp 47) rfl ⟨db, 1, none⟩ (by rfl) (by rfl) hst ?_
          (try simp only [Exit.inBlock, Exit.then])
          go_wp2_with fail
          go_roundw
          case rel =>
            have hr2 := Row.setCells nl 1 w' _ (hr.pu hp)
            rw [dcells_splice _ _ _ hol8 hnl8] at hr2
            have hbs := blocks_snoc k initS m
            rw [← HCUR.out] at hbs
            have enl : vs (blocks initS m (k + 1)).l = nl := by rw [HNL.out, hbs]
            have hr3 : Row (w'.setCells db 1 nl) db de (dcells true (vs (blocks initS m (k + 1)).l) (restOf l) (m.length : Int)) := by rw [enl]; exact hr2
            have hch2 := Chg.setCells db nl 1 w'
            refine ⟨k + 1, by omega, by omega, ?_, hr3, hch2.row (htb.pu hp) hne, (hbut.trans (But.pu hp)).trans (But.chg hch2)⟩
            rw [HCUR.out, List.take_of_length_le (by rw [List.length_drop]; exact Nat.le_refl _), List.drop_drop, Nat.mul_add]
          case measure => simp; omega
      · have hk : k = m.length / 64 := by omega
        have h64 : decide ((64 : Int) ≤ cur.length) = false := by simp; omega
        have h64n : ¬ ((64 : Int) ≤ cur.length) := by omega
        have hcl2 : cur.length ≤ 281474976710656 := by omega
        have hv8 : (vs (blocks initS m k).l).length = 8 := rfl
        obtain ⟨ol, hol⟩ : ∃ v, v = vs (blocks initS m k).l := ⟨_, rfl⟩
        rw [← hol] at hr hv8
        have HOL := Lib.hid hol
        have HCUR := Lib.hid hcur
        have HK := Lib.hid hk
        have HCL := Lib.hid hcl
        clear hol hcur hk hcl
        go_wp2_with (go_at_call 107; refine (clone cur hcl2 _).mono ?_; rintro e w3 ⟨rfl, hp3⟩; replace hr := hr.pu hp3; obtain ⟨d0, d9, d10⟩ := dcells_get _ _ hv8 _ _ hr; have f9 := hr.frozen 9 (by rw [dcells_length _ _ hv8]; omega))
        go_end0
        have hr3 := hr.set 9 (S cur)
        rw [dcells_set9 _ _ hv8] at hr3
        have e1 : restOf m = cur := by rw [HCUR.out, HK.out]; rfl
        have e2 : vs (wordsOf m).l = ol := by rw [HOL.out, HK.out]; rfl
        rw [← HMM.out, e1, e2]
        exact ⟨rfl, (hbut.trans (But.pu hp3)).trans (But.set _ _ _), hr3⟩
end Go.Proofs.Ytdjbhbefghihcaa
