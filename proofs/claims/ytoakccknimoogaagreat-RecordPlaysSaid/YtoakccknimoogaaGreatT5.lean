/- (*Digest).add. (*Digest).Add, Len, Copy. A law for regions that draw their order, of whose operations one changes a block and the last comes behind all others. The shelf's contracts of strings.Repeat and strings.Builder at this dump, in plain words (the tables as the kit's tools wrote them). A strings.Builder in a walk. What the program knows of numbers. Contracts of package pad. strings.Repeat of one byte. -/
import Derived.Test.YtoakccknimoogaaGreatT4
import Derived.Shelf.Strings.Repeat
import Derived.Test.YtoakccknimoogaaGreatProg
import Derived.Shelf.Strings.Builder1
set_option linter.unusedSimpArgs false
set_option linter.unusedVariables false
set_option linter.unusedSimpArgs false
set_option linter.unusedVariables false
namespace Go.Proofs.YtoakccknimoogaaGreat
open Go.RowKit Go.Esc
/-- The cells of a digest of which so much is told. -/
def dcells (begun : Bool) (ws : List Value) (rest : Bs) (n : Int) : List Value := .bool begun :: (ws ++ [S rest, .int .i64 n])
def zero8 : List Value := List.replicate 8 (.int .u32 0)
/-- xs are the cells of a digest of the bytes l. -/
def IsDig (xs : List Value) (l : Bs) : Prop := (l = [] ∧ xs = dcells false zero8 [] 0) ∨ xs = dcells true (vs (wordsOf l).l) (restOf l) l.length
theorem dcells_length (b : Bool) (ws : List Value) (h : ws.length = 8) (r : Bs) (n : Int) : (dcells b ws r n).length = 11 := by simp [dcells, h]
theorem dcells_get (b : Bool) (ws : List Value) (h : ws.length = 8) (r : Bs) (n : Int) {w : World} {g : Nat} {e : TypeId} (hr : Row w g e (dcells b ws r n)) :
 w.cell? ⟨g, 0, none⟩ = some (.bool b) ∧ w.cell? ⟨g, 9, none⟩ = some (S r) ∧ w.cell? ⟨g, 10, none⟩ = some (.int .i64 n) := by
 have hl := dcells_length b ws h r n
 refine ⟨hr.cell 0 (by omega), ?_, ?_⟩
 · rw [hr.cell' 9 (by omega)]; simp [dcells, List.getElem?_append_right, h]
 · rw [hr.cell' 10 (by omega)]; simp [dcells, List.getElem?_append_right, h]
theorem dcells_set0 (b b2 : Bool) (ws : List Value) (r : Bs) (n : Int) : (dcells b ws r n).set 0 (.bool b2) = dcells b2 ws r n := rfl
theorem dcells_set9 (b : Bool) (ws : List Value) (h : ws.length = 8) (r r2 : Bs) (n : Int) : (dcells b ws r n).set 9 (S r2) = dcells b ws r2 n := by
 match ws, h with
 | [a, b, c, d, e, f, g, h], _ => rfl
theorem dcells_set10 (b : Bool) (ws : List Value) (h : ws.length = 8) (r : Bs) (n n2 : Int) : (dcells b ws r n).set 10 (.int .i64 n2) = dcells b ws r n2 := by
 match ws, h with
 | [a, b, c, d, e, f, g, h], _ => rfl
theorem dcells_splice (b : Bool) (ws vs2 : List Value) (h : ws.length = 8) (h2 : vs2.length = 8) (r : Bs) (n : Int) : splice (dcells b ws r n) 1 vs2 = dcells b vs2 r n := by
 match ws, h, vs2, h2 with
 | [a, b, c, d, e, f, g, h], _, [a2, b2, c2, d2, e2, f2, g2, h2], _ => rfl
theorem dcells_words (b : Bool) (ws : List Value) (h : ws.length = 8) (r : Bs) (n : Int) : ((dcells b ws r n).drop 1).take 8 = ws := by
 simp [dcells, h]
theorem But.chg {g : Nat} {w w' : World} (h : Chg g w w') : But g w w' := ⟨h.os, h.tape, h.output, Nat.le_of_eq h.size.symm, fun k _ hk => h.block k hk⟩
theorem table_first : (tableCells.drop 67).take 8 = vs hTab := by kernel_rfl
theorem tableCells_length : tableCells.length = 75 := rfl
set_option maxRecDepth 100000 in
set_option maxHeartbeats 1600000 in
theorem add (db tb : Nat) (de te : TypeId) (hne : tb ≠ db) (l b : Bs) (hl : l.length + b.length ≤ 1000000) (xs : List Value) (hx : IsDig xs l) (w : World) (hd : Row w db de xs) (ht : Row w tb te tableCells) :
 Calls Tryz.prog 188 #[.pointer (some ⟨db, 0, none⟩), .pointer (some ⟨tb, 0, none⟩), S b] w fun e w' => e = .returned (.tuple #[]) ∧ But db w w' ∧ Row w' db de (dcells true (vs (wordsOf (l ++ b)).l) (restOf (l ++ b)) (l ++ b).length) := by
 have hi8 : (Tryz.prog.info? 232).map (·.size) = some 8 := by kernel_rfl
 have hvl : ∀ s : St, (vs s.l).length = 8 := fun _ => rfl
 have hvo : ∀ s : St, (vs s.l).all (·.oneCell') = true := fun _ => rfl
 have hz8 : zero8.length = 8 := rfl
 have htl := tableCells_length
 have HT := Lib.hid ht
 obtain ⟨l0, hl0⟩ : ∃ v, v = vs hTab := ⟨_, rfl⟩
 have hw0 : l = [] → l0 = vs (wordsOf l).l := by rintro rfl; rw [hl0]; rfl
 have hl08 : l0.length = 8 := by rw [hl0]; rfl
 have hl0o : l0.all (·.oneCell') = true := by rw [hl0]; rfl
 have htf : (tableCells.drop 67).take 8 = l0 := by rw [hl0]; exact table_first
 have HL0 := Lib.hid hl0
 have HW0 := Lib.hid hw0
 clear hl0 ht hw0
 rcases hx with ⟨hnil, hxs⟩ | hxs
 · rw [hxs] at hd
   have HNIL := Lib.hid hnil
   obtain ⟨c0, c9, c10⟩ := dcells_get _ _ hz8 _ _ hd
   have f0 := hd.frozen 0 (by rw [dcells_length _ _ hz8]; omega)
   clear hxs hnil
   go_enter Tryz.func188, Tryz.ntmps188
   go_wp2_with (first
    | (refine wpList_load_part rfl 232 (.tmp 15) rfl tb 67 8 (by rfl) HT.out Tryz.underlying232 rfl hi8 (by rw [tableCells_length]; omega) ?_; rw [htf])
    | (refine wpList_store_part rfl 232 (.tmp 20) (.tmp 16) rfl db 1 l0 (by rfl) (by rfl) (hd.set 0 (.bool true)) (by rw [hl08]; exact hi8) (by rw [hl08, List.length_set, dcells_length _ _ hz8]; omega) hl0o ?_; intro w1 hd1 hch1; rw [dcells_set0, dcells_splice _ _ _ hz8 hl08] at hd1; obtain ⟨c0', c9', c10'⟩ := dcells_get _ _ hl08 _ _ hd1; have f10 := hd1.frozen 10 (by rw [dcells_length _ _ hl08]; omega); clear c0 c9 c10 f0))
   obtain ⟨m, hm⟩ : ∃ m, m = l ++ b := ⟨_, rfl⟩
   have hml : m.length = l.length + b.length := by rw [hm, List.length_append]
   have hd2 := hd1.set 10 (.int .i64 (m.length : Int))
   rw [dcells_set10 _ _ hl08] at hd2
   have htab : Row w tb te tableCells := HT.out
   have hch := hch1
   go_loopw [2] (fun v wr => ∃ k : Nat, l.length / 64 ≤ k ∧ 64 * k ≤ m.length ∧ v = S (m.drop (64 * k)) ∧ Row wr db de (dcells true (vs (blocks initS m k).l) (restOf l) m.length) ∧ Row wr tb te tableCells ∧ But db w wr) (fun v _ => match v with | .string s => s.size | _ => 0)
   case atStart =>
    have hnil := HNIL.out
    subst hnil
    rw [HW0.out rfl] at hd2
    subst hm
    exact ⟨0, by simp, by omega, by simp, hd2, ((hch.row (htab.setOther ⟨db, 0, none⟩ _ hne) hne).setOther ⟨db, 10, none⟩ _ hne), ((But.set w 0 (.bool true)).trans (But.chg hch)).trans (But.set _ _ _)⟩
   case round =>
    have HMM := Lib.hid hm
    have HML := Lib.hid hml
    try clear hch
    try clear hd1
    try clear hch1
    try clear htab
    clear hd2 hm hml
    obtain ⟨k, hk1, hk2, rfl, hr, htb, hbut⟩ := hrel
    obtain ⟨cur, hcur⟩ : ∃ c, c = m.drop (64 * k) := ⟨_, rfl⟩
    have hcl : cur.length = m.length - 64 * k := by rw [hcur, List.length_drop]
    rw [← hcur]
    by_cases hlt : 64 ≤ cur.length
    · have h64 : (64 : Int) ≤ cur.length := by omega
      have h64' : decide ((64 : Int) ≤ cur.length) = true := by simp; omega
      obtain ⟨ol, hol⟩ : ∃ v, v = vs (blocks initS m k).l := ⟨_, rfl⟩
      obtain ⟨nl, hnl⟩ : ∃ v, v = vs (comp (blocks initS m k) (cur.take 64)).l := ⟨_, rfl⟩
      have hol8 : ol.length = 8 := by rw [hol]; rfl
      have hnl8 : nl.length = 8 := by rw [hnl]; rfl
      have hnlo : nl.all (·.oneCell') = true := by rw [hnl]; rfl
      have hM : ∀ w, Row w tb te tableCells → Calls Tryz.prog 190 #[.pointer (some ⟨tb, 0, none⟩), .agg ol.toArray, S (cur.take 64)] w fun e w' => e = .returned (.agg nl.toArray) ∧ Pu w w' := fun w ht => (mix tb te _ ol hol (cur.take 64) (by simp; omega) w ht).mono (by rintro e w' ⟨l2, h2, rfl, hp⟩; rw [← hnl] at h2; subst h2; exact ⟨rfl, hp⟩)
      have HM := Lib.hid hM
      rw [← hol] at hr
      have HOL := Lib.hid hol
      have HNL := Lib.hid hnl
      have HCUR := Lib.hid hcur
      have hcall : ∀ args w, (callFunc 190 args).run Tryz.prog w = .ok (.enter 190 args) w := fun args w => run_callFunc_body Tryz.func190 (by kernel_rfl) (by kernel_rfl) args w
      have h8' : 1 + 8 ≤ (dcells true ol (restOf l) (m.length : Int)).length := by rw [dcells_length _ _ hol8]; omega
      clear hM hol hnl hcur
      go_wp2_with fail
      apply region_last (n := 11) (hn := by kernel_rfl) (hlast := rfl) (hU := by kernel_rfl) (Φs := (Is _ :: Is _ :: Is _ :: Is _ :: Is _ :: Is _ :: Is _ :: Is _ :: Is _ :: Is _ :: Is _ :: [])) (hm := by kernel_rfl) (hE := by kernel_rfl) (hD := by kernel_rfl) (hsize := by kernel_rfl)
      case hop =>
       refine ⟨?_, ?_, ?_, ?_, ?_, ?_, ?_, ?_, ?_, ?_, ?_, trivial⟩
       · intro a' w' hs hp he
         have e0 := hs 0 (by kernel_rfl)
         try simp [Is, Region.binds] at he
         exact op_v
       · intro a' w' hs hp he
         have e1 := hs 1 (by kernel_rfl)
         try simp [Is, Region.binds] at he
         exact op_v
       · intro a' w' hs hp he
         have e0 := hs 0 (by kernel_rfl)
         try simp [Is, Region.binds] at he
         exact op_v
       · intro a' w' hs hp he
         try simp [Is, Region.binds] at he
         exact op_v
       · intro a' w' hs hp he
         try simp [Is, Region.binds] at he
         exact op_v
       · intro a' w' hs hp he
         try simp [Is, Region.binds] at he
         have hlo := (hr.pu hp).load (P := Tryz.prog) 232 1 8 Tryz.underlying232 rfl hi8 h8'; rw [dcells_words _ _ hol8] at hlo; exact op_load rfl rfl 232 (.tmp 43) rfl ⟨db, 1, none⟩ (by simp [Act.eval, he]) hlo rfl
       · intro a' w' hs hp he
         have e2 := hs 2 (by kernel_rfl)
         try simp [Is, Region.binds] at he
         exact op_v
       · intro a' w' hs hp he
         try simp [Is, Region.binds] at he
         exact op_v
       · intro a' w' hs hp he
         try simp [Is, Region.binds] at he
         exact op_callP (HM.out _ (htb.pu hp)) rfl (wanted_none rfl) (by first | (go_simp; done) | (go_simp; rfl)) (fun _ => rfl)
       · intro a' w' hs hp he
         try simp [Is, Region.binds] at he
         exact op_v
       · intro a' w' hs hp he
         try simp [Is, Region.binds] at he
         exact op_v
      case hend =>
       intro a' w' hdef hsz hs hp hall
       obtain ⟨r0, r1, r2, r3, r4, r5, r6, r7, r8, r9, r10, -⟩ := hall
       have hA := agree_done (agree_step (agree_step (agree_step (agree_step (agree_step (agree_step (agree_step (agree_step (agree_step (agree_step (agree_step (agree_init [39, 40, 41, 42, 43, 44, 45, 46, 47, 48, 49] hsz hs (by kernel_rfl)) r0) r1) r2) r3) r4) r5) r6) r7) r8) r9) r10)
       have ha := act_of hA hdef
       rw [ha]
       clear ha hA hs hsz hdef r0 r1 r2 r3 r4 r5 r6 r7 r8 r9 r10 
       (try simp only [List.setIfInBounds_toArray])
       (try dsimp only [List.set_cons_zero, List.set_cons_succ])
       (try simp only [Exit.then])
       have hst := (hr.pu hp).store (P := Tryz.prog) 232 1 nl (by rw [hnl8]; exact hi8) (by rw [hnl8]; exact h8') hnlo; refine op_store rfl rfl 232 (.tmp 49) (.tmp 47) rfl ⟨db, 1, none⟩ (by rfl) (by rfl) hst ?_
       (try simp only [Exit.inBlock, Exit.then])
       go_wp2_with fail
       go_roundw
       case rel =>
        have hr2 := Row.setCells nl 1 w' _ (hr.pu hp)
        rw [dcells_splice _ _ _ hol8 hnl8] at hr2
        have hbs := blocks_snoc k initS m
        rw [← HCUR.out] at hbs
        have enl : vs (blocks initS m (k + 1)).l = nl := by rw [HNL.out, hbs]
        have hr3 : Row (w'.setCells db 1 nl) db de (dcells true (vs (blocks initS m (k + 1)).l) (restOf l) (m.length : Int)) := by rw [enl]; exact hr2
        have hch2 := Chg.setCells db nl 1 w'
        refine ⟨k + 1, by omega, by omega, ?_, hr3, hch2.row (htb.pu hp) hne, (hbut.trans (But.pu hp)).trans (But.chg hch2)⟩
        rw [HCUR.out, List.take_of_length_le (by rw [List.length_drop]; exact Nat.le_refl _), List.drop_drop, Nat.mul_add]
       case measure => simp; omega
    · have hk : k = m.length / 64 := by omega
      have h64 : decide ((64 : Int) ≤ cur.length) = false := by simp; omega
      have h64n : ¬ ((64 : Int) ≤ cur.length) := by omega
      have hcl2 : cur.length ≤ 281474976710656 := by omega
      have hv8 : (vs (blocks initS m k).l).length = 8 := rfl
      obtain ⟨ol, hol⟩ : ∃ v, v = vs (blocks initS m k).l := ⟨_, rfl⟩
      rw [← hol] at hr hv8
      have HOL := Lib.hid hol
      have HCUR := Lib.hid hcur
      have HK := Lib.hid hk
      have HCL := Lib.hid hcl
      clear hol hcur hk hcl
      go_wp2_with (go_at_call 191; refine (clone cur hcl2 _).mono ?_; rintro e w3 ⟨rfl, hp3⟩; replace hr := hr.pu hp3; obtain ⟨d0, d9, d10⟩ := dcells_get _ _ hv8 _ _ hr; have f9 := hr.frozen 9 (by rw [dcells_length _ _ hv8]; omega))
      go_end0
      have hr3 := hr.set 9 (S cur)
      rw [dcells_set9 _ _ hv8] at hr3
      have e1 : restOf m = cur := by rw [HCUR.out, HK.out]; rfl
      have e2 : vs (wordsOf m).l = ol := by rw [HOL.out, HK.out]; rfl
      rw [← HMM.out, e1, e2]
      exact ⟨rfl, (hbut.trans (But.pu hp3)).trans (But.set _ _ _), hr3⟩
 · obtain ⟨ws0, hws0⟩ : ∃ v, v = vs (wordsOf l).l := ⟨_, rfl⟩
   rw [hxs, ← hws0] at hd
   have hws8 : ws0.length = 8 := by rw [hws0]; rfl
   have HWS := Lib.hid hws0
   clear hws0 hxs
   obtain ⟨c0, c9, c10⟩ := dcells_get _ _ hws8 _ _ hd
   have f10 := hd.frozen 10 (by rw [dcells_length _ _ hws8]; omega)
   obtain ⟨m, hm⟩ : ∃ m, m = l ++ b := ⟨_, rfl⟩
   have hml : m.length = l.length + b.length := by rw [hm, List.length_append]
   have hra : restOf l ++ b = m.drop (64 * (l.length / 64)) := by rw [hm]; exact rest_append l b
   have HRA := Lib.hid hra
   have hwa : ws0 = vs (blocks initS m (l.length / 64)).l := by rw [HWS.out, hm, words_append l b]
   have HWA := Lib.hid hwa
   have hd2 := hd.set 10 (.int .i64 (m.length : Int))
   rw [dcells_set10 _ _ hws8, hwa] at hd2
   obtain ⟨rl, hrl⟩ : ∃ r, r = restOf l := ⟨_, rfl⟩
   rw [← hrl] at c9
   have hrl' : rl.length ≤ 1000000 := by rw [hrl, restOf_length]; omega
   have HRL := Lib.hid hrl
   clear hra hwa hrl
   go_enter Tryz.func188, Tryz.ntmps188
   go_wp2_with fail
   have htab : Row w tb te tableCells := HT.out
   go_loopw [2] (fun v wr => ∃ k : Nat, l.length / 64 ≤ k ∧ 64 * k ≤ m.length ∧ v = S (m.drop (64 * k)) ∧ Row wr db de (dcells true (vs (blocks initS m k).l) (restOf l) m.length) ∧ Row wr tb te tableCells ∧ But db w wr) (fun v _ => match v with | .string s => s.size | _ => 0)
   case atStart =>
    refine ⟨l.length / 64, Nat.le_refl _, by omega, ?_, ?_, ?_, ?_⟩
    · rw [← HRA.out, ← HRL.out]
    · rw [hml] at hd2 ⊢; exact hd2
    · exact htab.setOther ⟨db, 10, none⟩ _ hne
    · exact But.set _ _ _
   case round =>
    have HMM := Lib.hid hm
    have HML := Lib.hid hml
    try clear hch
    try clear hd1
    try clear hch1
    try clear htab
    clear hd2 hm hml
    obtain ⟨k, hk1, hk2, rfl, hr, htb, hbut⟩ := hrel
    obtain ⟨cur, hcur⟩ : ∃ c, c = m.drop (64 * k) := ⟨_, rfl⟩
    have hcl : cur.length = m.length - 64 * k := by rw [hcur, List.length_drop]
    rw [← hcur]
    by_cases hlt : 64 ≤ cur.length
    · have h64 : (64 : Int) ≤ cur.length := by omega
      have h64' : decide ((64 : Int) ≤ cur.length) = true := by simp; omega
      obtain ⟨ol, hol⟩ : ∃ v, v = vs (blocks initS m k).l := ⟨_, rfl⟩
      obtain ⟨nl, hnl⟩ : ∃ v, v = vs (comp (blocks initS m k) (cur.take 64)).l := ⟨_, rfl⟩
      have hol8 : ol.length = 8 := by rw [hol]; rfl
      have hnl8 : nl.length = 8 := by rw [hnl]; rfl
      have hnlo : nl.all (·.oneCell') = true := by rw [hnl]; rfl
      have hM : ∀ w, Row w tb te tableCells → Calls Tryz.prog 190 #[.pointer (some ⟨tb, 0, none⟩), .agg ol.toArray, S (cur.take 64)] w fun e w' => e = .returned (.agg nl.toArray) ∧ Pu w w' := fun w ht => (mix tb te _ ol hol (cur.take 64) (by simp; omega) w ht).mono (by rintro e w' ⟨l2, h2, rfl, hp⟩; rw [← hnl] at h2; subst h2; exact ⟨rfl, hp⟩)
      have HM := Lib.hid hM
      rw [← hol] at hr
      have HOL := Lib.hid hol
      have HNL := Lib.hid hnl
      have HCUR := Lib.hid hcur
      have hcall : ∀ args w, (callFunc 190 args).run Tryz.prog w = .ok (.enter 190 args) w := fun args w => run_callFunc_body Tryz.func190 (by kernel_rfl) (by kernel_rfl) args w
      have h8' : 1 + 8 ≤ (dcells true ol (restOf l) (m.length : Int)).length := by rw [dcells_length _ _ hol8]; omega
      clear hM hol hnl hcur
      go_wp2_with fail
      apply region_last (n := 11) (hn := by kernel_rfl) (hlast := rfl) (hU := by kernel_rfl) (Φs := (Is _ :: Is _ :: Is _ :: Is _ :: Is _ :: Is _ :: Is _ :: Is _ :: Is _ :: Is _ :: Is _ :: [])) (hm := by kernel_rfl) (hE := by kernel_rfl) (hD := by kernel_rfl) (hsize := by kernel_rfl)
      case hop =>
       refine ⟨?_, ?_, ?_, ?_, ?_, ?_, ?_, ?_, ?_, ?_, ?_, trivial⟩
       · intro a' w' hs hp he
         have e0 := hs 0 (by kernel_rfl)
         try simp [Is, Region.binds] at he
         exact op_v
       · intro a' w' hs hp he
         have e1 := hs 1 (by kernel_rfl)
         try simp [Is, Region.binds] at he
         exact op_v
       · intro a' w' hs hp he
         have e0 := hs 0 (by kernel_rfl)
         try simp [Is, Region.binds] at he
         exact op_v
       · intro a' w' hs hp he
         try simp [Is, Region.binds] at he
         exact op_v
       · intro a' w' hs hp he
         try simp [Is, Region.binds] at he
         exact op_v
       · intro a' w' hs hp he
         try simp [Is, Region.binds] at he
         have hlo := (hr.pu hp).load (P := Tryz.prog) 232 1 8 Tryz.underlying232 rfl hi8 h8'; rw [dcells_words _ _ hol8] at hlo; exact op_load rfl rfl 232 (.tmp 43) rfl ⟨db, 1, none⟩ (by simp [Act.eval, he]) hlo rfl
       · intro a' w' hs hp he
         have e2 := hs 2 (by kernel_rfl)
         try simp [Is, Region.binds] at he
         exact op_v
       · intro a' w' hs hp he
         try simp [Is, Region.binds] at he
         exact op_v
       · intro a' w' hs hp he
         try simp [Is, Region.binds] at he
         exact op_callP (HM.out _ (htb.pu hp)) rfl (wanted_none rfl) (by first | (go_simp; done) | (go_simp; rfl)) (fun _ => rfl)
       · intro a' w' hs hp he
         try simp [Is, Region.binds] at he
         exact op_v
       · intro a' w' hs hp he
         try simp [Is, Region.binds] at he
         exact op_v
      case hend =>
       intro a' w' hdef hsz hs hp hall
       obtain ⟨r0, r1, r2, r3, r4, r5, r6, r7, r8, r9, r10, -⟩ := hall
       have hA := agree_done (agree_step (agree_step (agree_step (agree_step (agree_step (agree_step (agree_step (agree_step (agree_step (agree_step (agree_step (agree_init [39, 40, 41, 42, 43, 44, 45, 46, 47, 48, 49] hsz hs (by kernel_rfl)) r0) r1) r2) r3) r4) r5) r6) r7) r8) r9) r10)
       have ha := act_of hA hdef
       rw [ha]
       clear ha hA hs hsz hdef r0 r1 r2 r3 r4 r5 r6 r7 r8 r9 r10 
       (try simp only [List.setIfInBounds_toArray])
       (try dsimp only [List.set_cons_zero, List.set_cons_succ])
       (try simp only [Exit.then])
       have hst := (hr.pu hp).store (P := Tryz.prog) 232 1 nl (by rw [hnl8]; exact hi8) (by rw [hnl8]; exact h8') hnlo; refine op_store rfl rfl 232 (.tmp 49) (.tmp 47) rfl ⟨db, 1, none⟩ (by rfl) (by rfl) hst ?_
       (try simp only [Exit.inBlock, Exit.then])
       go_wp2_with fail
       go_roundw
       case rel =>
        have hr2 := Row.setCells nl 1 w' _ (hr.pu hp)
        rw [dcells_splice _ _ _ hol8 hnl8] at hr2
        have hbs := blocks_snoc k initS m
        rw [← HCUR.out] at hbs
        have enl : vs (blocks initS m (k + 1)).l = nl := by rw [HNL.out, hbs]
        have hr3 : Row (w'.setCells db 1 nl) db de (dcells true (vs (blocks initS m (k + 1)).l) (restOf l) (m.length : Int)) := by rw [enl]; exact hr2
        have hch2 := Chg.setCells db nl 1 w'
        refine ⟨k + 1, by omega, by omega, ?_, hr3, hch2.row (htb.pu hp) hne, (hbut.trans (But.pu hp)).trans (But.chg hch2)⟩
        rw [HCUR.out, List.take_of_length_le (by rw [List.length_drop]; exact Nat.le_refl _), List.drop_drop, Nat.mul_add]
       case measure => simp; omega
    · have hk : k = m.length / 64 := by omega
      have h64 : decide ((64 : Int) ≤ cur.length) = false := by simp; omega
      have h64n : ¬ ((64 : Int) ≤ cur.length) := by omega
      have hcl2 : cur.length ≤ 281474976710656 := by omega
      have hv8 : (vs (blocks initS m k).l).length = 8 := rfl
      obtain ⟨ol, hol⟩ : ∃ v, v = vs (blocks initS m k).l := ⟨_, rfl⟩
      rw [← hol] at hr hv8
      have HOL := Lib.hid hol
      have HCUR := Lib.hid hcur
      have HK := Lib.hid hk
      have HCL := Lib.hid hcl
      clear hol hcur hk hcl
      go_wp2_with (go_at_call 191; refine (clone cur hcl2 _).mono ?_; rintro e w3 ⟨rfl, hp3⟩; replace hr := hr.pu hp3; obtain ⟨d0, d9, d10⟩ := dcells_get _ _ hv8 _ _ hr; have f9 := hr.frozen 9 (by rw [dcells_length _ _ hv8]; omega))
      go_end0
      have hr3 := hr.set 9 (S cur)
      rw [dcells_set9 _ _ hv8] at hr3
      have e1 : restOf m = cur := by rw [HCUR.out, HK.out]; rfl
      have e2 : vs (wordsOf m).l = ol := by rw [HOL.out, HK.out]; rfl
      rw [← HMM.out, e1, e2]
      exact ⟨rfl, (hbut.trans (But.pu hp3)).trans (But.set _ _ _), hr3⟩
end Go.Proofs.YtoakccknimoogaaGreat
set_option linter.unusedSimpArgs false
set_option linter.unusedVariables false
namespace Go.Proofs.YtoakccknimoogaaGreat
open Go.RowKit Go.Esc
theorem IsDig.length {xs : List Value} {l : Bs} (h : IsDig xs l) : xs.length = 11 := by
 rcases h with ⟨-, rfl⟩ | rfl
 · exact dcells_length _ _ rfl _ _
 · exact dcells_length _ _ rfl _ _
theorem IsDig.one {xs : List Value} {l : Bs} (h : IsDig xs l) : xs.all (·.oneCell') = true := by
 rcases h with ⟨-, rfl⟩ | rfl <;> rfl
theorem IsDig.n {xs : List Value} {l : Bs} (h : IsDig xs l) : xs[10]? = some (.int .i64 l.length) := by
 rcases h with ⟨rfl, rfl⟩ | rfl <;> rfl
theorem IsDig.cell {xs : List Value} {l : Bs} (h : IsDig xs l) {w : World} {b : Nat} {e : TypeId} (hr : Row w b e xs) : w.cell? ⟨b, 10, none⟩ = some (.int .i64 l.length) := by
 rw [hr.cell' 10 (by rw [h.length]; omega)]; exact h.n
/-- Block b is a digest of the bytes l. -/
def Dig (w : World) (b : Nat) (l : Bs) : Prop := ∃ e xs, Row w b e xs ∧ IsDig xs l
theorem Dig.lt {w : World} {b : Nat} {l : Bs} (h : Dig w b l) : b < w.heap.size := by obtain ⟨_, _, h, _⟩ := h; exact h.lt
theorem Dig.pu {w w' : World} {b : Nat} {l : Bs} (h : Dig w b l) (hp : Pu w w') : Dig w' b l := by obtain ⟨e, xs, h, hx⟩ := h; exact ⟨e, xs, h.pu hp, hx⟩
theorem Dig.but {g : Nat} {w w' : World} {b : Nat} {l : Bs} (h : Dig w b l) (hp : But g w w') (hne : b ≠ g) : Dig w' b l := by obtain ⟨e, xs, h, hx⟩ := h; exact ⟨e, xs, hp.row h hne, hx⟩
theorem Dig.new (w : World) (e : TypeId) : Dig (w.alloc (.cells (dcells false zero8 [] 0).toArray e)) w.heap.size [] := ⟨e, _, Row.new _ _ _, .inl ⟨rfl, rfl⟩⟩
set_option maxRecDepth 100000 in
set_option maxHeartbeats 1600000 in
theorem digestAdd (db : Nat) (l b : Bs) (hl : l.length + b.length ≤ 1000000) (w : World) (hd : Dig w db l) :
 Calls Tryz.prog 186 #[.pointer (some ⟨db, 0, none⟩), S b] w fun e w' => e = .returned (.tuple #[]) ∧ But db w w' ∧ Dig w' db (l ++ b) := by
 obtain ⟨de, xs, hd, hx⟩ := hd
 have hlt := hd.lt
 have HX := Lib.hid hx
 clear hx
 go_enter Tryz.func186, Tryz.ntmps186
 go_wp2_with (first
  | (go_at_call 189; refine (table_made w.heap.size _ _ (Row.newAt _ _ _ _ rfl rfl)).mono ?_; rintro e w1 ⟨rfl, hb1, ht1⟩; have hd1 : Row w1 db de xs := hb1.row (hd.alloc _) (by omega); have hp1 : Pu w w1 := But.below ((Pu.refl w).alloc _) hb1 (Nat.le_refl _) (by simp))
  | (go_at_call 188; refine (add db w.heap.size de _ (by omega) l b hl xs HX.out w1 hd1 ht1).mono ?_; rintro e w2 ⟨rfl, hb2, hr2⟩))
 go_end0
 exact ⟨rfl, (But.pu hp1).trans hb2, de, _, hr2, .inr rfl⟩
end Go.Proofs.YtoakccknimoogaaGreat
namespace Go.Esc
open Go Go.RowKit
class StableB (g : Nat) (Φ : Value → World → Prop) : Prop where
 keep : ∀ v w w', Φ v w → But g w w' → Φ v w'
class AllStableB (g : Nat) (l : List (Value → World → Prop)) : Prop where
 keep : ∀ Φ ∈ l, ∀ v w w', Φ v w → But g w w' → Φ v w'
instance (g : Nat) (v : Value) : StableB g (Is v) := ⟨fun _ _ _ h _ => h⟩
instance (g : Nat) : StableB g Any := ⟨fun _ _ _ _ _ => trivial⟩
instance (g : Nat) : AllStableB g [] := ⟨fun _ h => by cases h⟩
instance (g : Nat) (Φ : Value → World → Prop) (l : List (Value → World → Prop)) [h : StableB g Φ] [k : AllStableB g l] : AllStableB g (Φ :: l) := ⟨fun Ψ hm => by
 rcases List.mem_cons.1 hm with rfl | hm
 · exact h.keep
 · exact k.keep Ψ hm⟩
def isDstL (l : List Oper) (t : Nat) : Bool := l.any fun o => o.dst == some t
theorem agree_initL {l : List Oper} {A B : Array Value} (ds : List Nat) (hsz : A.size = B.size) (h : ∀ t : Nat, isDstL l t = false → A[t]?.getD undef = B[t]?.getD undef)
 (hk : (l.all fun o => match o.dst with | some d => ds.contains d | none => true) = true) : Agree A B ds := by
 refine ⟨hsz, fun t ht => h t ?_⟩
 cases hd : isDstL l t with
 | false => rfl
 | true =>
   simp only [isDstL, List.any_eq_true] at hd
   obtain ⟨o, ho, he⟩ := hd
   have := List.all_eq_true.1 hk o ho
   have he' : o.dst = some t := by simpa using he
   rw [he'] at this
   simp only at this
   rw [ht] at this; cases this
section
variable {P : Program} {ops : Array Oper} {Q : Exit → Act → World → Prop}
/-- What is asked of an operation; that of number m may change block g. -/
def OpOkG (P : Program) (ops : Array Oper) (Q : Exit → Act → World → Prop) (g m n : Nat) (Φs : List (Value → World → Prop)) (a : Act) (w : World) (i : Nat) (o : Oper) : Prop :=
 ∀ (a' : Act) (w' : World), (∀ t : Nat, isDstL (ops.toList.take n) t = false → a'.tmps[t]?.getD undef = a.tmps[t]?.getD undef) → (bif Nat.beq i m then Pu w w' else But g w w') →
   (∀ e ∈ o.after.toList, Region.binds .any e = true → Φs.getD e.on Any (match (ops[e.on]?).bind (·.dst) with | some d => a'.tmps[d]?.getD undef | none => undef) w') →
   wpOp P ops Q i (fun a'' w'' => ∃ v, a'' = a'.put o.dst v ∧ Φs.getD i Any (if o.dst.isSome then v else undef) w'' ∧ (bif Nat.beq i m then But g w' w'' else Pu w' w'')) a' w'
theorem region_writer (id : Nat) (g : Nat) (Φ1 : List (Value → World → Prop)) (Φm : Value → World → Prop) (Φ2 : List (Value → World → Prop)) {a : Act} {w : World} (n : Nat) (ol : Oper) (hn : ops.size = n + 1) (hlast : ops[n]? = some ol)
 (hm : P.follows .mixedOrders = true) (hE : edgesBack ops = true) (hD : dstsApart ops = true) (hU : usedAll ops = true)
 [hΦ1 : AllStableB g Φ1] [hΦm : Stable Φm] [hΦ2 : AllStableB g Φ2]
 (hsize : (ops.toList.all fun o => match o.dst with | some d => decide (d < a.tmps.size) | none => true) = true)
 (hop : AllOps (OpOkG P ops Q g Φ1.length n (Φ1 ++ Φm :: Φ2) a w) 0 (ops.toList.take n))
 (hend : ∀ (a' : Act) (w' : World), a'.defers = a.defers → a'.tmps.size = a.tmps.size → (∀ t : Nat, isDstL (ops.toList.take n) t = false → a'.tmps[t]?.getD undef = a.tmps[t]?.getD undef) → But g w w' →
   AllOps (fun j oj => (Φ1 ++ Φm :: Φ2).getD j Any (match oj.dst with | some d => a'.tmps[d]?.getD undef | none => undef) w') 0 (ops.toList.take n) → wpOp P ops Q n (fun a'' w'' => Q .normal a'' w'') a' w') :
 (Code.region id ops true).wp P Q a w := by
 refine wp_region_any hm ?_
 obtain ⟨Φs, hΦs⟩ : ∃ l, l = Φ1 ++ Φm :: Φ2 := ⟨_, rfl⟩
 obtain ⟨m, hmm⟩ : ∃ m, m = Φ1.length := ⟨_, rfl⟩
 rw [← hΦs, ← hmm] at hop
 rw [← hΦs] at hend
 have hkeepB : ∀ (i : Nat), i ≠ m → ∀ (v : Value) (w w' : World), Φs.getD i Any v w → But g w w' → Φs.getD i Any v w' := by
  intro i him v w w' h hp
  subst hΦs; subst hmm
  by_cases hi : i < Φ1.length
  · have e : (Φ1 ++ Φm :: Φ2).getD i Any = Φ1[i] := by simp [List.getD, List.getElem?_append_left hi, List.getElem?_eq_getElem hi]
    rw [e] at h ⊢
    exact hΦ1.keep _ (List.getElem_mem hi) _ _ _ h hp
  · obtain ⟨j, rfl⟩ : ∃ j, i = Φ1.length + 1 + j := ⟨i - Φ1.length - 1, by omega⟩
    have e0 : (Φ1 ++ Φm :: Φ2).getD (Φ1.length + 1 + j) Any = Φ2.getD j Any := by
     rw [List.getD, List.getElem?_append_right (by omega), show Φ1.length + 1 + j - Φ1.length = j + 1 by omega, List.getElem?_cons_succ]; rfl
    rw [e0] at h ⊢
    by_cases hj : j < Φ2.length
    · have e : Φ2.getD j Any = Φ2[j] := by simp [List.getD, List.getElem?_eq_getElem hj]
      rw [e] at h ⊢
      exact hΦ2.keep _ (List.getElem_mem hj) _ _ _ h hp
    · have e : Φ2.getD j Any = Any := by simp [List.getD, List.getElem?_eq_none (by omega : Φ2.length ≤ j)]
      rw [e]; trivial
 have hkeep : ∀ (i : Nat) (v : Value) (w w' : World), Φs.getD i Any v w → Pu w w' → Φs.getD i Any v w' := by
  intro i v w w' h hp
  by_cases him : i = m
  · subst hΦs; subst hmm; subst him
    have e : (Φ1 ++ Φm :: Φ2).getD Φ1.length Any = Φm := by simp [List.getD]
    rw [e] at h ⊢
    exact hΦm.keep _ _ _ h hp
  · exact hkeepB i him v w w' h (But.pu hp)
 let slot : Act → Option Tmp → Value := fun a' d => match d with | some d => a'.tmps[d]?.getD undef | none => undef
 let Inv : Array Bool → Act → World → Prop := fun listed a' w' => listed.size = ops.size ∧
  ((listed[n]? = some false ∧ Closed ops listed ∧ a'.defers = a.defers ∧ a'.tmps.size = a.tmps.size ∧
    (∀ t : Nat, isDstL (ops.toList.take n) t = false → a'.tmps[t]?.getD undef = a.tmps[t]?.getD undef) ∧ (But g w w' ∧ (listed[m]? = some false → Pu w w')) ∧
    ∀ (j : Nat) (oj : Oper), ops[j]? = some oj → listed[j]? = some true → Φs.getD j Any (slot a' oj.dst) w') ∨
   ((∀ i, i < ops.size → listed[i]? = some true) ∧ Q .normal a' w'))
 refine wpAny_inv .any Inv ?_ ?_ (fun _ _ _ h => h.1) ops.size _ a _ ?_ ?_
 · intro listed a' w' ⟨h1, h⟩ i hi
   simp only [Region.ready, List.mem_filter, List.mem_range, Bool.and_eq_true, Bool.not_eq_true'] at hi
   obtain ⟨hi1, hi2, hi3⟩ := hi
   have ho : ops[i]? = some ops[i] := Array.getElem?_eq_getElem hi1
   have hlt : i < listed.size := by omega
   have hif : listed[i]? = some false := by
    simp [Array.getD_eq_getD_getElem?, Array.getElem?_eq_getElem hlt] at hi2
    rw [Array.getElem?_eq_getElem hlt, hi2]
   have hi4 : ∀ e ∈ ops[i].after.toList, Region.binds .any e = true → listed[e.on]? = some true := by
    intro e he hb
    rw [ho] at hi3
    simp only [Option.map_some, Option.getD_some, Array.all_eq_true_iff_forall_mem] at hi3
    have h7 := hi3 e (by simpa using he)
    simp only [hb, Bool.not_true, Bool.false_or] at h7
    cases hq : listed[e.on]? with
    | none => simp [Array.getD_eq_getD_getElem?, hq] at h7
    | some x => simp [Array.getD_eq_getD_getElem?, hq] at h7; rw [h7]
   rcases h with ⟨hnf, hcl, h2, h3, h4, h5, h6⟩ | ⟨hall, hQ⟩
   · by_cases hin : i = n
     · subst hin
       have hall := all_listed hU listed i hn hcl ops[i] ho hi4
       refine wpOp_mono ?_ (hend a' w' h2 h3 h4 h5.1 (AllOps.mk' _ _ fun j o hj => ?_))
       · intro a'' w'' hQ
         refine ⟨by simp [h1], .inr ⟨fun j hj => ?_, hQ⟩⟩
         by_cases hji : i = j
         · subst hji; rw [Array.getElem?_setIfInBounds_self, if_pos hlt]
         · rw [Array.getElem?_setIfInBounds_ne hji]; exact hall _ j (by omega) rfl
       · rw [Nat.zero_add]
         rw [List.getElem?_take] at hj
         split at hj
         · next hji =>
           have := h6 j o (by simpa using hj) (hall _ j hji rfl)
           exact this
         · cases hj
     · have hk := hop.get i ops[i] (by rw [List.getElem?_take, if_pos (by omega)]; simp)
       rw [Nat.zero_add] at hk
       have hk2 := hk a' w' h4 (by
        by_cases him : i = m
        · have : Nat.beq i m = true := by rw [him]; exact Nat.beq_refl m
          rw [this]; exact h5.2 (by rw [← him]; exact hif)
        · have : Nat.beq i m = false := by cases h : Nat.beq i m with | false => rfl | true => exact absurd (Nat.eq_of_beq_eq_true h) him
          rw [this]; exact h5.1) (fun e hm hb => by
        have h8 := hi4 e hm hb
        have hlt2 : e.on < ops.size := by
         have := (Array.getElem?_eq_some_iff.1 h8).1; omega
        have h9 := h6 e.on ops[e.on] (Array.getElem?_eq_getElem hlt2) h8
        rw [Array.getElem?_eq_getElem hlt2]
        exact h9)
       refine wpOp_mono ?_ hk2
       rintro a'' w'' ⟨v, rfl, hv, hR0⟩
       have hR : But g w' w'' := by
        cases h : Nat.beq i m with
        | true => rw [h] at hR0; exact hR0
        | false => rw [h] at hR0; exact But.pu hR0
       have hR1 : i ≠ m → Pu w' w'' := by
        intro him
        have : Nat.beq i m = false := by cases h : Nat.beq i m with | false => rfl | true => exact absurd (Nat.eq_of_beq_eq_true h) him
        rw [this] at hR0; exact hR0
       refine ⟨by simp [h1], .inl ⟨?_, ?_, ?_, ?_, ?_, ⟨h5.1.trans hR, ?_⟩, ?_⟩⟩
       · rw [Array.getElem?_setIfInBounds_ne hin]; exact hnf
       · intro j oj hj hl e he hb
         by_cases hij : i = j
         · subst hij
           rw [ho] at hj; cases hj
           have h8 := hi4 e he hb
           by_cases hie : i = e.on
           · rw [← hie] at h8; rw [hif] at h8; cases h8
           · rw [Array.getElem?_setIfInBounds_ne hie]; exact h8
         · have hl' : listed[j]? = some true := by rw [Array.getElem?_setIfInBounds_ne hij] at hl; exact hl
           have h8 := hcl j oj hj hl' e he hb
           by_cases hie : i = e.on
           · rw [← hie] at h8; rw [hif] at h8; cases h8
           · rw [Array.getElem?_setIfInBounds_ne hie]; exact h8
       · cases ops[i].dst <;> exact h2
       · cases ops[i].dst <;> simp [Act.put, h3]
       · intro t ht
         rw [← h4 t ht]
         have hne0 : ops[i].dst ≠ some t := by
          intro e
          have : isDstL (ops.toList.take n) t = true := by
           refine List.any_eq_true.2 ⟨ops[i], ?_, by rw [e]; simp⟩
           refine List.mem_iff_getElem.2 ⟨i, by simp; omega, by simp⟩
          rw [ht] at this; cases this
         cases hd : ops[i].dst with
         | none => rfl
         | some d =>
           have hne : d ≠ t := fun e => hne0 (by rw [hd, e])
           simp [Act.put, Array.getElem?_setIfInBounds_ne hne]
       · intro hl
         by_cases him : i = m
         · rw [him, Array.getElem?_setIfInBounds_self, if_pos (by omega)] at hl; cases hl
         · rw [Array.getElem?_setIfInBounds_ne him] at hl; exact (h5.2 hl).trans (hR1 him)
       · intro j oj hj hl
         by_cases hij : i = j
         · subst hij
           rw [ho] at hj; cases hj
           cases hd : ops[i].dst with
           | none => rw [hd] at hv; exact hv
           | some d =>
             rw [hd] at hv
             have hdl : d < a'.tmps.size := by
              rw [h3]
              have := List.all_eq_true.1 hsize ops[i] (by simp)
              rw [hd] at this; simpa using this
             simpa [slot, Act.put, Array.getElem?_setIfInBounds_self, hdl] using hv
         · have hl' : listed[j]? = some true := by rw [Array.getElem?_setIfInBounds_ne hij] at hl; exact hl
           have hold : Φs.getD j Any (slot a' oj.dst) w'' := by
            by_cases him : i = m
            · exact hkeepB j (fun e => hij (him.trans e.symm)) _ _ _ (h6 j oj hj hl') hR
            · exact hkeep j _ _ _ (h6 j oj hj hl') (hR1 him)
           have hsame : slot (a'.put ops[i].dst v) oj.dst = slot a' oj.dst := by
            cases hd : ops[i].dst with
            | none => rfl
            | some d =>
              cases hd2 : oj.dst with
              | none => rfl
              | some d2 =>
                have hne : d ≠ d2 := by
                 simp only [dstsApart, List.all_eq_true, List.mem_range] at hD
                 have hj1 : j < ops.size := (Array.getElem?_eq_some_iff.1 hj).1
                 have := hD i hi1 j hj1
                 rw [ho, hj] at this
                 simp [hd, hd2, hij] at this
                 exact this
                simp [slot, Act.put, Array.getElem?_setIfInBounds_ne hne]
           rw [hsame]; exact hold
   · have := hall i hi1
     rw [hif] at this; cases this
 · intro listed a' w' ⟨h1, h⟩ hr
   have hall := ready_nil hE listed h1 hr
   rcases h with ⟨hnf, _⟩ | ⟨_, hQ⟩
   · have := hall n (by omega)
     rw [hnf] at this; cases this
   · exact hQ
 · refine ⟨by simp, .inl ⟨?_, ?_, rfl, rfl, fun _ _ => rfl, ⟨⟨rfl, rfl, rfl, Nat.le_refl _, fun _ _ _ => rfl⟩, fun _ => ⟨rfl, rfl, rfl, Nat.le_refl _, fun _ _ => rfl⟩⟩, ?_⟩⟩
   · rw [Array.getElem?_replicate, if_pos (by omega)]
   · intro j oj hj hl
     have hj1 : j < ops.size := (Array.getElem?_eq_some_iff.1 hj).1
     rw [Array.getElem?_replicate, if_pos hj1] at hl; cases hl
   · intro j oj hj hl
     have hj1 : j < ops.size := (Array.getElem?_eq_some_iff.1 hj).1
     rw [Array.getElem?_replicate, if_pos hj1] at hl; cases hl
 · rw [Array.toList_replicate, List.count_replicate_self]; exact Nat.le_refl _
theorem op_callB {g : Nat} {Φ : Value → World → Prop} {i : Nat} {o : Oper} {a' : Act} {w' : World} {f : FuncId} {args : Array Value} (ho : ops[i]? = some o) (hw : Region.wanted o (yielded ops a'.tmps) = true)
 (hrun : (execOp a'.eval o).run P w' = .ok (.enter f args) w') (hc : Calls P f args w' fun e w'' => ∃ v, e = .returned v ∧ Φ (if o.dst.isSome then v else undef) w'' ∧ But g w' w'') :
 wpOp P ops Q i (fun a'' w'' => ∃ v, a'' = a'.put o.dst v ∧ Φ (if o.dst.isSome then v else undef) w'' ∧ But g w' w'') a' w' := by
 unfold wpOp
 simp only [ho, hw, if_true]
 refine .inl ?_
 unfold Oper.wp
 rw [hrun, Oper.upon_enter]
 refine hc.mono ?_
 rintro e w'' ⟨v, rfl, hφ, hp⟩
 exact ⟨v, rfl, hφ, hp⟩
theorem op_callK {K : Act → World → Prop} {i : Nat} {o : Oper} {a' : Act} {w' : World} {f : FuncId} {args : Array Value} (ho : ops[i]? = some o) (hw : Region.wanted o (yielded ops a'.tmps) = true)
 (hrun : (execOp a'.eval o).run P w' = .ok (.enter f args) w') (hc : Calls P f args w' fun e w'' => ∃ v, e = .returned v ∧ K (a'.put o.dst v) w'') : wpOp P ops Q i K a' w' := by
 unfold wpOp
 simp only [ho, hw, if_true]
 refine .inl ?_
 unfold Oper.wp
 rw [hrun, Oper.upon_enter]
 refine hc.mono ?_
 rintro e w'' ⟨v, rfl, hK⟩
 exact hK
/-- The value is v, and a row is kept. -/
def IsAt (v : Value) (g : Nat) (e : TypeId) (xs : List Value) : Value → World → Prop := fun u w => u = v ∧ Row w g e xs
instance (v : Value) (g : Nat) (e : TypeId) (xs : List Value) : Stable (IsAt v g e xs) := ⟨fun _ _ _ h hp => ⟨h.1, h.2.pu hp⟩⟩
/-- A slice of a new row, which is not block g. -/
def IsRowN (g : Nat) (e : TypeId) (n : Nat) (xs : List Value) : Value → World → Prop := fun v w => ∃ k cap, v = .slice (some ⟨k, 0, none⟩) n cap ∧ (Row w k e xs ∧ k ≠ g)
instance (g : Nat) (e : TypeId) (n : Nat) (xs : List Value) : StableB g (IsRowN g e n xs) := ⟨fun _ _ _ h hp => by obtain ⟨k, cap, hv, hr, hk⟩ := h; exact ⟨k, cap, hv, hp.row hr hk, hk⟩⟩
theorem op_valB {g : Nat} {Φ : Value → World → Prop} {i : Nat} {o : Oper} {a' : Act} {w' w'' : World} {v : Value} (ho : ops[i]? = some o) (hw : Region.wanted o (yielded ops a'.tmps) = true)
 (hrun : (execOp a'.eval o).run P w' = .ok (.value v) w'') (hφ : Φ (if o.dst.isSome then v else undef) w'') (hp : But g w' w'') :
 wpOp P ops Q i (fun a'' w'' => ∃ v, a'' = a'.put o.dst v ∧ Φ (if o.dst.isSome then v else undef) w'' ∧ But g w' w'') a' w' := by
 unfold wpOp
 simp only [ho, hw, if_true]
 refine .inl ?_
 unfold Oper.wp
 rw [hrun]
 exact ⟨v, rfl, hφ, hp⟩
/-- A slice of a row from block base on. -/
def IsRowF (base : Nat) (e : TypeId) (n : Nat) (xs : List Value) : Value → World → Prop := fun v w => ∃ k cap, v = .slice (some ⟨k, 0, none⟩) n cap ∧ (Row w k e xs ∧ base ≤ k)
instance (base : Nat) (e : TypeId) (n : Nat) (xs : List Value) : Stable (IsRowF base e n xs) := ⟨fun _ _ _ h hp => by obtain ⟨k, cap, hv, hr, hk⟩ := h; exact ⟨k, cap, hv, hr.pu hp, hk⟩⟩
theorem But.toPu {g : Nat} {w w' : World} (h : But g w w') (hg : w.heap.size ≤ g) : Pu w w' := ⟨h.os, h.tape, h.output, h.size, fun k hk => h.block k hk (by omega)⟩
end
end Go.Esc
namespace Go.Proofs
open Go.Shelf
def Tryz.lays105_ren : Go.Shelf.Ren := ⟨fun | 105 => 68 | 212 => 105 | 99 => 106 | 165 => 107 | 166 => 108 | 170 => 109 | 169 => 110 | 263 => 136 | 264 => 137 | 206 => 138 | 240 => 139 | 241 => 140 | 276 => 162 | 277 => 163 | n => n, fun | 9 => 9 | 3 => 3 | 4 => 4 | 20 => 20 | 0 => 0 | 46 => 133 | 109 => 163 | 5 => 5 | 72 => 167 | 76 => 171 | 51 => 108 | 146 => 192 | 53 => 79 | 148 => 194 | 70 => 165 | 37 => 51 | 75 => 170 | 127 => 196 | 164 => 220 | 80 => 173 | n => n, fun | n => n⟩
theorem Tryz.lays105 : Go.Proofs.Lays.n105 Tryz.prog Tryz.lays105_ren := {
 mixed := by kernel_rfl
 f99 := Tryz.func106.trans (congrArg some (by kernel_rfl))
 f105 := Tryz.func68.trans (congrArg some (by kernel_rfl))
 f165 := Tryz.func107.trans (congrArg some (by kernel_rfl))
 f166 := Tryz.func108.trans (congrArg some (by kernel_rfl))
 f169 := Tryz.func110.trans (congrArg some (by kernel_rfl))
 f170 := Tryz.func109.trans (congrArg some (by kernel_rfl))
 f206 := Tryz.func138.trans (congrArg some (by kernel_rfl))
 f212 := Tryz.func105.trans (congrArg some (by kernel_rfl))
 f240 := Tryz.func139.trans (congrArg some (by kernel_rfl))
 f241 := Tryz.func140.trans (congrArg some (by kernel_rfl))
 f263 := Tryz.func136.trans (congrArg some (by kernel_rfl))
 f264 := Tryz.func137.trans (congrArg some (by kernel_rfl))
 f276 := Tryz.func162.trans (congrArg some (by kernel_rfl))
 f277 := Tryz.func163.trans (congrArg some (by kernel_rfl))
 t0 := Tryz.underlying0
 a0 := Tryz.isAgg0
 z0 := Tryz.sizeOf0
 v0 := Tryz.zeroValue0
 t3 := Tryz.underlying3
 a3 := Tryz.isAgg3
 z3 := Tryz.sizeOf3
 v3 := Tryz.zeroValue3
 t4 := Tryz.underlying4
 a4 := Tryz.isAgg4
 z4 := Tryz.sizeOf4
 v4 := Tryz.zeroValue4
 t5 := Tryz.underlying5
 a5 := Tryz.isAgg5
 z5 := Tryz.sizeOf5
 v5 := Tryz.zeroValue5
 t9 := Tryz.underlying9
 a9 := Tryz.isAgg9
 z9 := Tryz.sizeOf9
 v9 := Tryz.zeroValue9
 t20 := Tryz.underlying20
 a20 := Tryz.isAgg20
 z20 := Tryz.sizeOf20
 v20 := Tryz.zeroValue20
 t37 := Tryz.underlying51
 a37 := Tryz.isAgg51
 z37 := Tryz.sizeOf51
 v37 := Tryz.zeroValue51
 t46 := Tryz.underlying133
 a46 := Tryz.isAgg133
 z46 := Tryz.sizeOf133
 v46 := Tryz.zeroValue133
 t51 := Tryz.underlying108
 a51 := Tryz.isAgg108
 z51 := Tryz.sizeOf108
 v51 := Tryz.zeroValue108
 t53 := Tryz.underlying79
 a53 := Tryz.isAgg79
 z53 := Tryz.sizeOf79
 v53 := Tryz.zeroValue79
 t70 := Tryz.underlying165
 a70 := Tryz.isAgg165
 z70 := Tryz.sizeOf165
 v70 := Tryz.zeroValue165
 t72 := Tryz.underlying167
 a72 := Tryz.isAgg167
 z72 := Tryz.sizeOf167
 v72 := Tryz.zeroValue167
 t75 := Tryz.underlying170
 a75 := Tryz.isAgg170
 z75 := Tryz.sizeOf170
 v75 := Tryz.zeroValue170
 t76 := Tryz.underlying171
 a76 := Tryz.isAgg171
 z76 := Tryz.sizeOf171
 v76 := Tryz.zeroValue171
 t109 := Tryz.underlying163
 a109 := Tryz.isAgg163
 z109 := Tryz.sizeOf163
 v109 := Tryz.zeroValue163
 t127 := Tryz.underlying196
 a127 := Tryz.isAgg196
 z127 := Tryz.sizeOf196
 v127 := Tryz.zeroValue196
 t146 := Tryz.underlying192
 a146 := Tryz.isAgg192
 z146 := Tryz.sizeOf192
 v146 := Tryz.zeroValue192
 t148 := Tryz.underlying194
 a148 := Tryz.isAgg194
 z148 := Tryz.sizeOf194
 v148 := Tryz.zeroValue194
 t164 := Tryz.underlying220
 a164 := Tryz.isAgg220
 z164 := Tryz.sizeOf220
 v164 := Tryz.zeroValue220 }
theorem Tryz.Builder_Extra_105 : Builder.Extra Tryz.prog Tryz.lays105_ren := {
 sizeBuilder := by kernel_rfl
 liesBuilder := by kernel_rfl
 t5 := Tryz.underlying5
 a5 := Tryz.isAgg5
 z5 := Tryz.sizeOf5
 v5 := Tryz.zeroValue5
 infoByte := by kernel_rfl
 cellsByte := by kernel_rfl
 sizeByte := by kernel_rfl
 neB5 := by decide }
open Go.RowKit Go.Lib in
theorem Tryz.strings_Repeat (s : ByteArray) (c : Nat) (w : World) (hc : c ≤ 9223372036854775807) (hlen : s.size * c ≤ 140737488355328) :
 Calls Tryz.prog 68 #[.string s, .int .i64 c] w fun e w' => e = .returned (.string ⟨(Lib.repeatL s.data.toList c).toArray⟩) ∧ Below w.heap.size w w' := Any.strings_Repeat Tryz.lays105 Tryz.Builder_Extra_105 s c w hc hlen
open Go.RowKit in
theorem Tryz.Builder_WriteString (B b : Nat) (bs : List Value) (s : ByteArray) (w : World) (h : Lib.IsBuilder 167 5 B b bs w) (hlen : bs.length + s.size ≤ 140737488355328) (hBw : B ≤ w.heap.size) :
 Calls Tryz.prog 108 #[.pointer (some ⟨b, 0, none⟩), .string s] w fun e w' => e = .returned (.tuple #[.int .i64 s.size, .nilIface]) ∧ (Lib.BuilderAt 167 5 B b (.pointer (some ⟨b, 0, none⟩)) (bs ++ Lib.strCells s) w' ∧ Below B w w') := Any.Builder_WriteString { Tryz.lays105 with } { Tryz.Builder_Extra_105 with } B b bs s w h hlen hBw
open Go.RowKit in
theorem Tryz.Builder_String_any (B b : Nat) (l : List UInt8) (w : World) (h : Lib.IsBuilder 167 5 B b (Lib.byteCells l) w) (hBw : B ≤ w.heap.size) :
 Calls Tryz.prog 110 #[.pointer (some ⟨b, 0, none⟩)] w fun e w' => e = .returned (.string ⟨l.toArray⟩) ∧ Below B w w' := Any.Builder_String_any { Tryz.lays105 with } { Tryz.Builder_Extra_105 with } B b l w h hBw
end Go.Proofs
namespace Go.Proofs.YtoakccknimoogaaGreat
open Go.RowKit Go.Esc
/-- Block b is a builder that holds the bytes l. -/
def Bld (w : World) (b : Nat) (l : Bs) : Prop := Lib.IsBuilder 167 5 b b (cells l) w
theorem Bld.new (w w' : World) (c : Array Value) (e : TypeId) (he : e = 167) (hc : c = #[.pointer none, .slice none 0 0]) (hw : w' = w.alloc (.cells c e)) : Bld w' w.heap.size [] := by
 subst he; subst hc; subst hw; exact Lib.fresh_isBuilder _ _ w
theorem Bld.pu {w w' : World} {b : Nat} {l : Bs} (h : Bld w b l) (hp : Pu w w') : Bld w' b l := by
 have key : ∀ p, Lib.BuilderAt 167 5 b b p (cells l) w → Lib.BuilderAt 167 5 b b p (cells l) w' := by
  intro p hb
  have hlt := hb.lt
  obtain ⟨hB, v, hh, hown, hne⟩ := hb
  exact ⟨hB, v, by rw [hp.block b hlt]; exact hh, own_pu hown hp, hne⟩
 rcases h with h | h
 · exact .inl (key _ h)
 · exact .inr (key _ h)
theorem Bld.lt {w : World} {b : Nat} {l : Bs} (h : Bld w b l) : b < w.heap.size := by
 rcases h with h | h
 · exact h.lt
 · exact h.lt
theorem write (b : Nat) (l s : Bs) (w : World) (h : Bld w b l) (hlen : l.length + s.length ≤ 140737488355328) :
 Calls Tryz.prog 108 #[.pointer (some ⟨b, 0, none⟩), S s] w fun e w' => e = .returned (.tuple #[.int .i64 s.length, .nilIface]) ∧ Bld w' b (l ++ s) ∧ Below b w w' := by
 refine (Tryz.Builder_WriteString b b (cells l) (bs s) w h (by rw [cells_length, bs_size]; exact hlen) (Nat.le_of_lt h.lt)).mono ?_
 rintro e w' ⟨rfl, h1, h2⟩
 refine ⟨by rw [bs_size], .inr ?_, h2⟩
 have e : cells l ++ Lib.strCells (bs s) = cells (l ++ s) := by simp [cells, Lib.strCells, bs, B]
 rw [e] at h1; exact h1
theorem string (b : Nat) (l : Bs) (w : World) (h : Bld w b l) :
 Calls Tryz.prog 110 #[.pointer (some ⟨b, 0, none⟩)] w fun e w' => e = .returned (S l) ∧ Below b w w' :=
 Tryz.Builder_String_any b b l w h (Nat.le_of_lt h.lt)
end Go.Proofs.YtoakccknimoogaaGreat
namespace Go.Proofs.YtoakccknimoogaaGreat
open Go.RowKit Go.Esc
theorem infoI : (Tryz.prog.info? 3).map (fun i => (i.zero, i.size, i.bytes)) = some (some (.int .i64 0), 1, 8) := by kernel_rfl
theorem infoW : (Tryz.prog.info? 108).map (fun i => (i.zero, i.size, i.bytes)) = some (some (.int .u32 0), 1, 4) := by kernel_rfl
end Go.Proofs.YtoakccknimoogaaGreat
set_option linter.unusedSimpArgs false
set_option linter.unusedVariables false
namespace Go.Proofs.YtoakccknimoogaaGreat
open Go.RowKit Go.Esc
def ints (l : List Int) : List Value := l.map (.int .i64)
def szs (k : Nat) : List Int := ([32, 128, 512, 2048] : List Int).take k
def szAt (k : Nat) : Int := 32 * 4 ^ k
theorem szAt_le (k : Nat) (h : k < 4) : 1 ≤ szAt k ∧ szAt k ≤ 2048 := by
 match k, h with
 | 0, _ => decide
 | 1, _ => decide
 | 2, _ => decide
 | 3, _ => decide
theorem szs_succ (k : Nat) (h : k < 4) : szs (k+1) = szs k ++ [szAt k] := by
 match k, h with
 | 0, _ => decide
 | 1, _ => decide
 | 2, _ => decide
 | 3, _ => decide
set_option maxHeartbeats 800000 in
set_option maxRecDepth 100000 in
theorem sizes_fill (b pv : Nat) (hb : b < pv) (w : World) (h : Row w b 191 [.int .u32 0, .int .i32 1, .int .u32 0, .slice none 0 0]) (hp : Row w pv 219 [.pointer (some ⟨b, 0, none⟩)]) :
 Calls Tryz.prog 161 #[.pointer (some ⟨pv, 0, none⟩)] w fun e w' => e = .returned (.tuple #[]) ∧
  Below b w w' ∧ Row w' pv 219 [.pointer (some ⟨b, 0, none⟩)] ∧ ∃ v, Row w' b 191 [.int .u32 0, .int .i32 1, .int .u32 0, v] ∧ w'.ownsRow w.heap.size 3 1 v 4 (ints [32, 128, 512, 2048]) := by
 obtain ⟨i0, hi, hz0, hz1, hz2⟩ := info_parts infoI
 go_enter Tryz.func161, Tryz.ntmps161
 go_wp2_with fail
 go_loopw [1] (fun n wr => ∃ k : Nat, k ≤ 4 ∧ n = .int .i64 (szAt k) ∧ Below b w wr ∧ Row wr pv 219 [.pointer (some ⟨b, 0, none⟩)] ∧ ∃ v, Row wr b 191 [.int .u32 0, .int .i32 1, .int .u32 0, v] ∧ wr.ownsRow w.heap.size 3 1 v k (ints (szs k))) (fun n _ => 8192 - (intOf n).toNat)
 case atStart => exact ⟨0, by omega, rfl, Below.refl _ _, hp, _, h, World.ownsRow_nil _ _ _ _⟩
 case round =>
  obtain ⟨k, hk, rfl, hbel, hpv, v, hrow, hown⟩ := hrel
  obtain ⟨va, vc, rfl, hlt'⟩ := own_slice hown
  have c0 := hpv.cell 0 (by simp)
  have c3 := hrow.cell 3 (by simp)
  simp at c0 c3
  by_cases hlt : k < 4
  · have f3 := hrow.frozen 3 (by simp)
    have hbw := hbel.size
    have hB : b < w.heap.size := h.lt
    have hP : pv < w.heap.size := hp.lt
    have hk4 : (k : Int) < 4 := by omega
    have ca : ∀ o, (wr.alloc o).cell? ⟨b, 3, none⟩ = some (.slice va k vc) := fun o => (hrow.alloc o).cell 3 (by simp)
    have cp : ∀ o, (wr.alloc o).cell? ⟨pv, 0, none⟩ = some (.pointer (some ⟨b, 0, none⟩)) := fun o => (hpv.alloc o).cell 0 (by simp)
    go_wp2_with fail
    go_outline
    go_region_law? (refine step_append_own rfl (.tmp 14) (.tmp 16) 30 rfl w.heap.size 3 i0 (.int .i64 0) 1 8 Tryz.underlying30 hi hz0 hz1 hz2 rfl (by decide) (.slice va k vc) k (ints (szs k)) (by simp [Act.eval, Act.put]) (hown.alloc _) ⟨wr.heap.size, 0, none⟩ 1 1 [.int .i64 (szAt k)] (by simp [Act.eval, Act.put]) rfl (by intro j u hj; match j, hj with | 0, hj => simp at hj; subst hj; simp [Addr.add]) (by intro u hu; simp at hu; subst hu; rfl) (by unfold maxLen; omega) (by omega) (by simp; omega) ?_; intro v' w2 hown2 hgrow2; obtain ⟨g, cap2, rfl, hg1, hg2⟩ := own_form hown2 (by omega); have hr2 := grown_row hgrow2 (hrow.alloc _) (by intro h; have := hlt' b h.symm; omega); have hp2 := grown_row hgrow2 (hpv.alloc _) (by intro h; have := hlt' pv h.symm; omega); have z3 := hr2.cell 3 (by simp); have zf := hr2.frozen 3 (by simp); have z0 := hp2.cell 0 (by simp); simp at z3 z0)
    all_goals
     have hb2 : Below b wr w2 := (((Below.refl b wr).alloc (by omega) _).drew).grown hgrow2 (by simp; omega) (fun j hj => by have := hlt' j hj; omega)
     have hsz := szAt_le k hlt
     go_wp2_with fail
     go_roundw
     case rel =>
      refine ⟨k+1, by omega, by rw [show szAt (k+1) = szAt k * 4 by simp [szAt, Int.pow_succ, Int.mul_assoc]], (hbel.trans hb2).setCell (Nat.le_refl _) _, hp2.setOther _ _ (by simp; omega), _, hr2.set 3 _, ?_⟩
      have := (ownsRow_setCell_below hown2 (a := ⟨b, 3, none⟩) (by simpa using hB) (.slice (some ⟨g, 0, none⟩) (k+1) cap2))
      rw [szs_succ k hlt, ints, List.map_append]
      exact this
     case measure => simp [intOf, szAt] at *; omega
  · obtain rfl : k = 4 := by omega
    go_wp2_with fail
    go_end0
    exact ⟨rfl, hbel, hpv, _, hrow, by simpa [szs] using hown⟩
end Go.Proofs.YtoakccknimoogaaGreat
namespace Go.Proofs.YtoakccknimoogaaGreat
open Go.RowKit Go.Esc
theorem repeatL_one (x : UInt8) (m : Nat) : Lib.repeatL [x] m = List.replicate m x := by
 induction m with
 | zero => rfl
 | succ m ih => simp [Lib.repeatL, List.replicate_succ, ih]
theorem rep (x : UInt8) (c : Int) (w : World) (h0 : 0 ≤ c) (h : c ≤ 140737488355328) :
 Calls Tryz.prog 68 #[.string ⟨#[x]⟩, .int .i64 c] w fun e w' => e = .returned (S (List.replicate c.toNat x)) ∧ Pu w w' := by
 obtain ⟨m, rfl⟩ := Int.eq_ofNat_of_zero_le h0
 refine (Tryz.strings_Repeat ⟨#[x]⟩ m w (by omega) (by show 1 * m ≤ _; omega)).mono ?_
 rintro e w' ⟨rfl, hb⟩
 refine ⟨?_, hb⟩
 rw [← repeatL_one]; rfl
end Go.Proofs.YtoakccknimoogaaGreat
