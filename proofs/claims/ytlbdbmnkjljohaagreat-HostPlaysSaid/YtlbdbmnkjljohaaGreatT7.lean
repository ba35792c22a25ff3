/- Package hello: the hello as bytes, and back. Names and users that may be: users.Right, and the document's Name and User. Maps in a walk: block b holds, for each key, a value or none. Worlds that differ in new blocks and in those of a set. -/
import Derived.Test.YtlbdbmnkjljohaaGreatT6
import Derived.Maps.OwnSet
set_option linter.unusedSimpArgs false
set_option linter.unusedVariables false
set_option linter.unusedSimpArgs false
set_option linter.unusedVariables false
namespace Go.Proofs.YtlbdbmnkjljohaaGreat
open Go.RowKit Go.Esc
def IsPtrB (base : Nat) (e : TypeId) (xs : List Value) : Value → World → Prop := fun v w => ∃ g, v = .pointer (some ⟨g, 0, none⟩) ∧ Row w g e xs ∧ base ≤ g
instance (base : Nat) (e : TypeId) (xs : List Value) : Stable (IsPtrB base e xs) := ⟨fun _ _ _ h hp => by obtain ⟨g, hv, hr, hb⟩ := h; exact ⟨g, hv, hr.pu hp, hb⟩⟩
def helloV (o : Option (Bs × Bs)) : List Value := match o with
  | some (u, n) => [S u, S n]
  | none => [S [], S []]
theorem kindL_one (b : Bs) : kindL b = 1 ↔ (b.headD 0).toNat = 1 := by
  unfold kindL
  split
  · exact Iff.rfl
  · constructor <;> intro h <;> omega
set_option maxRecDepth 100000 in
theorem putHello (u n : Bs) (hu : u.length ≤ 100000) (hn : n.length ≤ 100000) (w : World) :
    Calls Tryz.prog 38 #[.agg #[S u, S n]] w fun e w' => e = .returned (.tuple #[S (optV (helloR u n)), .bool (helloR u n).isSome]) ∧ Pu w w' := by
  have hp0 := (Pu.refl w).alloc (.cells #[S u, S n] 32)
  by_cases h1 : n.length = 16
  · have k1 : (n.length : Int) = 16 := by omega
    by_cases h2 : u.length < 1
    · have k2 : (u.length : Int) < 1 := by omega
      have e9 : helloR u n = none := by unfold helloR; rw [if_neg (fun h => by obtain ⟨_, _, _⟩ := h; omega)]
      rw [e9]
      clear h1 e9
      go_enter Tryz.func38, Tryz.ntmps38
      go_wp2_with fail
      go_ret2
      exact ⟨rfl, hp0⟩
    · have k2 : ¬ (u.length : Int) < 1 := by omega
      by_cases h3 : 20 < u.length
      · have k3 : (20 : Int) < u.length := by omega
        have e9 : helloR u n = none := by unfold helloR; rw [if_neg (fun h => by obtain ⟨_, _, _⟩ := h; omega)]
        rw [e9]
        clear h1 e9
        go_enter Tryz.func38, Tryz.ntmps38
        go_wp2_with fail
        go_ret2
        exact ⟨rfl, hp0⟩
      · have k3 : ¬ (20 : Int) < u.length := by omega
        have e9 : helloR u n = some (helloL u n) := by unfold helloR; rw [if_pos ⟨h1, by omega, by omega⟩]
        rw [e9]
        have hcv := two_byte_eq (P := Tryz.prog) (w.alloc (.cells #[S u, S n] 32)) 1 u.length (by decide) (by omega) 42 9 5 Tryz.underlying42 Tryz.underlying5 Tryz.underlying9
        rw [show (w.alloc (.cells #[S u, S n] 32)).heap.size = w.heap.size + 1 by simp, show ((1 : Nat) : Int) = 1 from rfl] at hcv
        have hm : (u.length : Int) % 256 = u.length := by omega
        have hL : helloL u n = UInt8.ofNat 1 :: UInt8.ofNat u.length :: (u ++ n) := rfl
        obtain ⟨c, hc⟩ : ∃ c, c = UInt8.ofNat u.length := ⟨_, rfl⟩
        obtain ⟨d, hd⟩ : ∃ d, d = UInt8.ofNat 1 := ⟨_, rfl⟩
        rw [← hc, ← hd] at hL hcv
        rw [hL]
        have hp1 := hp0.alloc (.cells #[.int .u8 1, .int .u8 (u.length : Int)] 5)
        have z1 : ¬ (9223372036854775807 < u.length + 1 + 1) := by omega
        have z2 : ¬ (9223372036854775807 < u.length + n.length + 1 + 1) := by omega
        have z3 : ¬ (9223372036854775807 < 1 + 1 + u.length) := by omega
        have z4 : ¬ (9223372036854775807 < 1 + 1 + u.length + n.length) := by omega
        clear h1 hL e9 hc hd
        go_enter Tryz.func38, Tryz.ntmps38
        go_wp2_with fail
        go_ret2
        exact ⟨rfl, hp1⟩
  · have k1 : ¬ (n.length : Int) = 16 := by omega
    have e9 : helloR u n = none := by unfold helloR; rw [if_neg (fun h => by obtain ⟨_, _, _⟩ := h; omega)]
    rw [e9]
    go_enter Tryz.func38, Tryz.ntmps38
    go_wp2_with fail
    go_ret2
    exact ⟨rfl, hp0⟩
set_option maxRecDepth 100000 in
set_option maxHeartbeats 1600000 in
theorem getHelloW (b : Bs) (hb : b.length ≤ 100000) (w : World) :
    Calls Tryz.prog 80 #[S b] w fun e w' => e = .returned (.tuple #[.agg (helloV (getHello b)).toArray, .bool (getHello b).isSome]) ∧ Pu w w' := by
  have hi : (Tryz.prog.info? 32).map (·.size) = some 2 := by kernel_rfl
  have hp0 := (Pu.refl w).alloc (.cells #[.string ⟨#[]⟩, .string ⟨#[]⟩] 32)
  have hkd := fun w => kind b w
  have hk1 := kindL_one b
  obtain ⟨q, hq⟩ : ∃ q, q = kindL b := ⟨_, rfl⟩
  rw [← hq] at hkd hk1
  have HK := Lib.hid hkd
  clear hkd hq
  by_cases h1 : q = 1
  rotate_left
  · have k1 : ¬ (q : Int) = 1 := by omega
    have e9 : getHello b = none := by unfold getHello; rw [if_neg (fun h => h1 (hk1.2 h.2.1))]
    rw [e9]
    clear e9 hk1
    go_enter Tryz.func80, Tryz.ntmps80
    go_wp2_with (first
      | (go_at_call 89; refine (HK.out _).mono ?_; rintro e w1 ⟨rfl, rfl⟩)
      | (refine wpList_store_part rfl 32 (.tmp 2) (.tmp 26) rfl w.heap.size 0 [S [], S []] (by rfl) (by rfl) (Row.newAt w w.heap.size _ _ rfl rfl) hi (by simp) (by simp [Value.oneCell']) ?_; intro w4 hr4 hch4))
    rw [splice_all (by rfl)] at hr4
    have hrl := hr4.load (P := Tryz.prog) 32 0 2 Tryz.underlying32 rfl hi (by simp)
    (try simp only [Exit.inBlock, Exit.then])
    refine bodyPost_ret (results_cell_slot rfl _ _ rfl rfl hrl) rfl ?_
    exact ⟨rfl, hch4.below hp0 (Nat.le_refl _)⟩
  have k1 : (q : Int) = 1 := by omega
  have h1' := hk1.1 h1
  subst h1
  by_cases h2 : b.length < 2
  · have k2 : (b.length : Int) < 2 := by omega
    have e9 : getHello b = none := by unfold getHello; rw [if_neg (by omega)]
    rw [e9]
    clear e9 hk1 h1'
    go_enter Tryz.func80, Tryz.ntmps80
    go_wp2_with (first
      | (go_at_call 89; refine (HK.out _).mono ?_; rintro e w1 ⟨rfl, rfl⟩)
      | (refine wpList_store_part rfl 32 (.tmp 2) (.tmp 26) rfl w.heap.size 0 [S [], S []] (by rfl) (by rfl) (Row.newAt w w.heap.size _ _ rfl rfl) hi (by simp) (by simp [Value.oneCell']) ?_; intro w4 hr4 hch4))
    rw [splice_all (by rfl)] at hr4
    have hrl := hr4.load (P := Tryz.prog) 32 0 2 Tryz.underlying32 rfl hi (by simp)
    (try simp only [Exit.inBlock, Exit.then])
    refine bodyPost_ret (results_cell_slot rfl _ _ rfl rfl hrl) rfl ?_
    exact ⟨rfl, hch4.below hp0 (Nat.le_refl _)⟩
  have k2 : ¬ (b.length : Int) < 2 := by omega
  have k3 : (1 : Int) < b.length := by omega
  obtain ⟨d, hd⟩ : ∃ d, d = (b[1]'(by omega)) := ⟨_, rfl⟩
  have hgd : b.getD 1 0 = d := by rw [hd, List.getD_eq_getElem?_getD, List.getElem?_eq_getElem (by omega)]; rfl
  have hdl := d.toNat_lt
  have kw : IntKind.i64.wrap (d.toNat : Int) = d.toNat := by rw [IntKind.wrap_i64]; omega
  have kw1 : IntKind.i64.wrap (2 + (d.toNat : Int)) = 2 + (d.toNat : Int) := by rw [IntKind.wrap_i64]; omega
  have kw2 : IntKind.i64.wrap (2 + (d.toNat : Int) + 16) = 2 + (d.toNat : Int) + 16 := by rw [IntKind.wrap_i64]; omega
  have hd' : b[1]'(by omega) = d := hd.symm
  by_cases h3 : b.length = 18 + d.toNat
  rotate_left
  · have k4 : ((b.length : Int) != 2 + (d.toNat : Int) + 16) = true := by simp; omega
    have k5 : decide ((b.length : Int) < 2) = false := by simp; omega
    have e9 : getHello b = none := by unfold getHello; rw [hgd, if_neg (by omega)]
    rw [e9]
    clear e9 hk1 h1' hgd hd
    go_enter Tryz.func80, Tryz.ntmps80
    go_wp2_with (first
      | (go_at_call 89; refine (HK.out _).mono ?_; rintro e w1 ⟨rfl, rfl⟩)
      | (refine wpList_store_part rfl 32 (.tmp 2) (.tmp 26) rfl w.heap.size 0 [S [], S []] (by rfl) (by rfl) (Row.newAt w w.heap.size _ _ rfl rfl) hi (by simp) (by simp [Value.oneCell']) ?_; intro w4 hr4 hch4))
    rw [splice_all (by rfl)] at hr4
    have hrl := hr4.load (P := Tryz.prog) 32 0 2 Tryz.underlying32 rfl hi (by simp)
    (try simp only [Exit.inBlock, Exit.then])
    refine bodyPost_ret (results_cell_slot rfl _ _ rfl rfl hrl) rfl ?_
    exact ⟨rfl, hch4.below hp0 (Nat.le_refl _)⟩
  obtain ⟨A, hA⟩ : ∃ A, A = 2 + d.toNat := ⟨_, rfl⟩
  have kA1 : (2 : Int) ≤ A := by omega
  have kA2 : (A : Int) ≤ b.length := by omega
  have kA3 : (0 : Int) ≤ A := by omega
  have hsu : ∀ w, (Instr.slice 9 (S b) (some (.int .i64 2)) (some (.int .i64 (A : Int))) none).run Tryz.prog w = .ok (S ((b.take A).drop 2)) w := fun w => run_str_lh 9 Tryz.underlying9 b 2 A (by omega) (by omega) w
  have hsn : ∀ w, (Instr.slice 9 (S b) (some (.int .i64 (A : Int))) none none).run Tryz.prog w = .ok (S (b.drop A)) w := fun w => run_str_l 9 Tryz.underlying9 b A (by omega) w
  have k4 : (b.length : Int) = 2 + (d.toNat : Int) + 16 := by omega
  have kA : 2 + (d.toNat : Int) = A := by omega
  have hu1 := fun w => clone ((b.take A).drop 2) (by simp; omega) w
  have hn1 := fun w => clone (b.drop A) (by simp; omega) w
  have hph := fun w => putHello ((b.take A).drop 2) (b.drop A) (by simp; omega) (by simp; omega) w
  have e9 : getHello b = if 1 ≤ d.toNat ∧ d.toNat ≤ 20 then some ((b.take A).drop 2, b.drop A) else none := by
    unfold getHello
    rw [hgd]
    by_cases h : 1 ≤ d.toNat ∧ d.toNat ≤ 20
    · rw [if_pos h, if_pos ⟨by omega, h1', h3, h.1, h.2⟩, ← hA, List.drop_take]
      rw [show A - 2 = d.toNat by omega]
    · rw [if_neg h, if_neg (by omega)]
  have e8 : (helloR ((b.take A).drop 2) (b.drop A)).isSome = decide (1 ≤ d.toNat ∧ d.toNat ≤ 20) := by
    unfold helloR
    by_cases h : 1 ≤ d.toNat ∧ d.toNat ≤ 20
    · rw [if_pos ⟨by simp; omega, by simp; omega, by simp; omega⟩]; simp [h]
    · rw [if_neg (fun h9 => by obtain ⟨_, h8, h7⟩ := h9; simp at h8 h7; omega)]; simp [h]
  obtain ⟨u, hu⟩ : ∃ u, u = (b.take A).drop 2 := ⟨_, rfl⟩
  obtain ⟨n, hn⟩ : ∃ n, n = b.drop A := ⟨_, rfl⟩
  rw [← hu] at hu1 hph e9 e8 hsu
  rw [← hn] at hn1 hph e9 e8 hsn
  obtain ⟨o, ho⟩ : ∃ o, o = helloR u n := ⟨_, rfl⟩
  rw [← ho] at hph e8
  have HU := Lib.hid hu1
  have HN := Lib.hid hn1
  have HP := Lib.hid hph
  have HUE := Lib.hid hu
  have HNE := Lib.hid hn
  rw [e9]
  by_cases h4 : 1 ≤ d.toNat ∧ d.toNat ≤ 20
  · rw [if_pos h4]
    have e7 : o.isSome = true := by rw [e8]; simp [h4]
    rw [e7] at HP
    clear e9 e8 e7 ho hu hn hu1 hn1 hph hk1 h1' hgd hd h3 hA h4
    go_enter Tryz.func80, Tryz.ntmps80
    go_wp2_with (go_at_call 89; refine (HK.out _).mono ?_; rintro e w1 ⟨rfl, rfl⟩)
    apply region_last (n := 10) (hn := by kernel_rfl) (hlast := rfl) (hU := by kernel_rfl) (Φs := (Is _ :: Is _ :: Is _ :: Is _ :: Is _ :: Is _ :: Is _ :: Is _ :: Is _ :: IsPtrB (w.heap.size + 1) 32 [S [], S []] :: [])) (hm := by kernel_rfl) (hE := by kernel_rfl) (hD := by kernel_rfl) (hsize := by kernel_rfl)
    case hop =>
      refine ⟨?_, ?_, ?_, ?_, ?_, ?_, ?_, ?_, ?_, ?_, trivial⟩
      · intro a' w' hs hp he
        have e0 := hs 0 (by kernel_rfl)
        try simp [Is, Region.binds] at he
        exact op_val rfl (wanted_none rfl) (by first | (go_simp; done) | (go_simp; rfl) | (simp [execOp, Act.eval, go_sem, *]; done) | (simp [execOp, Act.eval, go_sem, *]; rfl)) rfl (Pu.refl _)
      · intro a' w' hs hp he
        have e4 := hs 4 (by kernel_rfl)
        try simp [Is, Region.binds] at he
        exact op_val rfl (wanted_none rfl) (by first | (go_simp; done) | (go_simp; rfl) | (simp [execOp, Act.eval, go_sem, *]; done) | (simp [execOp, Act.eval, go_sem, *]; rfl)) rfl (Pu.refl _)
      · intro a' w' hs hp he
        try simp [Is, Region.binds] at he
        exact op_val rfl (wanted_none rfl) (by first | (go_simp; done) | (go_simp; rfl) | (simp [execOp, Act.eval, go_sem, *]; done) | (simp [execOp, Act.eval, go_sem, *]; rfl)) rfl (Pu.refl _)
      · intro a' w' hs hp he
        try simp [Is, Region.binds] at he
        exact op_callP (HU.out _) rfl (wanted_none rfl) (by first | (go_simp; done) | (go_simp; rfl)) (fun _ => rfl)
      · intro a' w' hs hp he
        have e0 := hs 0 (by kernel_rfl)
        try simp [Is, Region.binds] at he
        exact op_val rfl (wanted_none rfl) (by first | (go_simp; done) | (go_simp; rfl) | (simp [execOp, Act.eval, go_sem, *]; done) | (simp [execOp, Act.eval, go_sem, *]; rfl)) rfl (Pu.refl _)
      · intro a' w' hs hp he
        have e4 := hs 4 (by kernel_rfl)
        try simp [Is, Region.binds] at he
        exact op_val rfl (wanted_none rfl) (by first | (go_simp; done) | (go_simp; rfl) | (simp [execOp, Act.eval, go_sem, *]; done) | (simp [execOp, Act.eval, go_sem, *]; rfl)) rfl (Pu.refl _)
      · intro a' w' hs hp he
        try simp [Is, Region.binds] at he
        exact op_val rfl (wanted_none rfl) (by first | (go_simp; done) | (go_simp; rfl) | (simp [execOp, Act.eval, go_sem, *]; done) | (simp [execOp, Act.eval, go_sem, *]; rfl)) rfl (Pu.refl _)
      · intro a' w' hs hp he
        try simp [Is, Region.binds] at he
        exact op_callP (HN.out _) rfl (wanted_none rfl) (by first | (go_simp; done) | (go_simp; rfl)) (fun _ => rfl)
      · intro a' w' hs hp he
        try simp [Is, Region.binds] at he
        exact op_val rfl (wanted_none rfl) (by first | (go_simp; done) | (go_simp; rfl) | (simp [execOp, Act.eval, go_sem, *]; done) | (simp [execOp, Act.eval, go_sem, *]; rfl)) rfl (Pu.refl _)
      · intro a' w' hs hp he
        try simp [Is, Region.binds] at he
        refine op_val rfl (wanted_none rfl) (by go_simp; exact ⟨rfl, rfl⟩) ?_ ((Pu.refl _).alloc _); exact ⟨_, rfl, Row.newAt _ _ _ _ rfl rfl, by have := hp.size; simp at this; omega⟩
    case hend =>
      intro a' w' hdef hsz hs hp hall
      obtain ⟨r0, r1, r2, r3, r4, r5, r6, r7, r8, r9, -⟩ := hall
      obtain ⟨g9, rv9, row9⟩ := r9
      have hA := agree_done (agree_step (agree_step (agree_step (agree_step (agree_step (agree_step (agree_step (agree_step (agree_step (agree_step (agree_init [31, 32, 33, 34, 35, 36, 37, 38, 39, 5] hsz hs (by kernel_rfl)) r0) r1) r2) r3) r4) r5) r6) r7) r8) rv9)
      have ha := act_of hA hdef
      rw [ha]
      clear ha hA hs hsz hdef r0 r1 r2 r3 r4 r5 r6 r7 r8 rv9
      (try simp only [List.setIfInBounds_toArray])
      (try dsimp only [List.set_cons_zero, List.set_cons_succ])
      (try simp only [Exit.then])
      have hst := row9.1.store (P := Tryz.prog) 32 0 [S u, S n] (by exact hi) (by simp) (by simp [Value.oneCell']); refine op_store rfl rfl 32 (.tmp 5) (.tmp 39) rfl ⟨g9, 0, none⟩ (by rfl) (by rfl) hst ?_
      (try simp only [Exit.inBlock, Exit.then])
      have hr5 := Row.setCells [S u, S n] 0 w' _ row9.1
      rw [splice_all (by rfl)] at hr5
      have hp5 : Below w.heap.size w (w'.setCells g9 0 [S u, S n]) := (Chg.setCells g9 [S u, S n] 0 w').below (hp0.trans hp) (Nat.le_of_succ_le row9.2)
      have hr0 := ((Row.newAt w w.heap.size #[.string ⟨#[]⟩, .string ⟨#[]⟩] 32 rfl rfl).pu hp).other ((Chg.setCells g9 [S u, S n] 0 w').block w.heap.size (by have := row9.2; omega))
      obtain ⟨w5, hw5⟩ : ∃ x, x = w'.setCells g9 0 [S u, S n] := ⟨_, rfl⟩
      rw [← hw5] at hr5 hp5 hr0 ⊢
      clear hw5 hp
      go_wp2_with (first
        | (refine wpList_load_row rfl 32 (.tmp 5) rfl g9 [S u, S n] (by rfl) hr5 Tryz.underlying32 rfl hi ?_)
        | (refine wpList_load_row rfl 32 (.tmp 5) rfl g9 [S u, S n] (by rfl) (hr5.pu hp6) Tryz.underlying32 rfl hi ?_)
        | (go_at_call 38; refine (HP.out _).mono ?_; rintro e w6 ⟨rfl, hp6⟩)
        | (refine wpList_store_part rfl 32 (.tmp 2) (.tmp 48) rfl w.heap.size 0 [S u, S n] (by rfl) (by rfl) (hr0.pu hp6) hi (by simp) (by simp [Value.oneCell']) ?_; intro w7 hr7 hch7))
      rw [splice_all (by rfl)] at hr7
      have hrl := hr7.load (P := Tryz.prog) 32 0 2 Tryz.underlying32 rfl hi (by simp)
      (try simp only [Exit.inBlock, Exit.then])
      refine bodyPost_ret (results_cell_slot rfl _ _ rfl rfl hrl) rfl ?_
      exact ⟨rfl, hch7.below (Pu.trans hp5 hp6) (Nat.le_refl _)⟩
  · rw [if_neg h4]
    have e7 : o.isSome = false := by rw [e8]; simp [h4]
    rw [e7] at HP
    clear e9 e8 e7 ho hu hn hu1 hn1 hph hk1 h1' hgd hd h3 hA h4
    go_enter Tryz.func80, Tryz.ntmps80
    go_wp2_with (go_at_call 89; refine (HK.out _).mono ?_; rintro e w1 ⟨rfl, rfl⟩)
    apply region_last (n := 10) (hn := by kernel_rfl) (hlast := rfl) (hU := by kernel_rfl) (Φs := (Is _ :: Is _ :: Is _ :: Is _ :: Is _ :: Is _ :: Is _ :: Is _ :: Is _ :: IsPtrB (w.heap.size + 1) 32 [S [], S []] :: [])) (hm := by kernel_rfl) (hE := by kernel_rfl) (hD := by kernel_rfl) (hsize := by kernel_rfl)
    case hop =>
      refine ⟨?_, ?_, ?_, ?_, ?_, ?_, ?_, ?_, ?_, ?_, trivial⟩
      · intro a' w' hs hp he
        have e0 := hs 0 (by kernel_rfl)
        try simp [Is, Region.binds] at he
        exact op_val rfl (wanted_none rfl) (by first | (go_simp; done) | (go_simp; rfl) | (simp [execOp, Act.eval, go_sem, *]; done) | (simp [execOp, Act.eval, go_sem, *]; rfl)) rfl (Pu.refl _)
      · intro a' w' hs hp he
        have e4 := hs 4 (by kernel_rfl)
        try simp [Is, Region.binds] at he
        exact op_val rfl (wanted_none rfl) (by first | (go_simp; done) | (go_simp; rfl) | (simp [execOp, Act.eval, go_sem, *]; done) | (simp [execOp, Act.eval, go_sem, *]; rfl)) rfl (Pu.refl _)
      · intro a' w' hs hp he
        try simp [Is, Region.binds] at he
        exact op_val rfl (wanted_none rfl) (by first | (go_simp; done) | (go_simp; rfl) | (simp [execOp, Act.eval, go_sem, *]; done) | (simp [execOp, Act.eval, go_sem, *]; rfl)) rfl (Pu.refl _)
      · intro a' w' hs hp he
        try simp [Is, Region.binds] at he
        exact op_callP (HU.out _) rfl (wanted_none rfl) (by first | (go_simp; done) | (go_simp; rfl)) (fun _ => rfl)
      · intro a' w' hs hp he
        have e0 := hs 0 (by kernel_rfl)
        try simp [Is, Region.binds] at he
        exact op_val rfl (wanted_none rfl) (by first | (go_simp; done) | (go_simp; rfl) | (simp [execOp, Act.eval, go_sem, *]; done) | (simp [execOp, Act.eval, go_sem, *]; rfl)) rfl (Pu.refl _)
      · intro a' w' hs hp he
        have e4 := hs 4 (by kernel_rfl)
        try simp [Is, Region.binds] at he
        exact op_val rfl (wanted_none rfl) (by first | (go_simp; done) | (go_simp; rfl) | (simp [execOp, Act.eval, go_sem, *]; done) | (simp [execOp, Act.eval, go_sem, *]; rfl)) rfl (Pu.refl _)
      · intro a' w' hs hp he
        try simp [Is, Region.binds] at he
        exact op_val rfl (wanted_none rfl) (by first | (go_simp; done) | (go_simp; rfl) | (simp [execOp, Act.eval, go_sem, *]; done) | (simp [execOp, Act.eval, go_sem, *]; rfl)) rfl (Pu.refl _)
      · intro a' w' hs hp he
        try simp [Is, Region.binds] at he
        exact op_callP (HN.out _) rfl (wanted_none rfl) (by first | (go_simp; done) | (go_simp; rfl)) (fun _ => rfl)
      · intro a' w' hs hp he
        try simp [Is, Region.binds] at he
        exact op_val rfl (wanted_none rfl) (by first | (go_simp; done) | (go_simp; rfl) | (simp [execOp, Act.eval, go_sem, *]; done) | (simp [execOp, Act.eval, go_sem, *]; rfl)) rfl (Pu.refl _)
      · intro a' w' hs hp he
        try simp [Is, Region.binds] at he
        refine op_val rfl (wanted_none rfl) (by go_simp; exact ⟨rfl, rfl⟩) ?_ ((Pu.refl _).alloc _); exact ⟨_, rfl, Row.newAt _ _ _ _ rfl rfl, by have := hp.size; simp at this; omega⟩
    case hend =>
      intro a' w' hdef hsz hs hp hall
      obtain ⟨r0, r1, r2, r3, r4, r5, r6, r7, r8, r9, -⟩ := hall
      obtain ⟨g9, rv9, row9⟩ := r9
      have hA := agree_done (agree_step (agree_step (agree_step (agree_step (agree_step (agree_step (agree_step (agree_step (agree_step (agree_step (agree_init [31, 32, 33, 34, 35, 36, 37, 38, 39, 5] hsz hs (by kernel_rfl)) r0) r1) r2) r3) r4) r5) r6) r7) r8) rv9)
      have ha := act_of hA hdef
      rw [ha]
      clear ha hA hs hsz hdef r0 r1 r2 r3 r4 r5 r6 r7 r8 rv9
      (try simp only [List.setIfInBounds_toArray])
      (try dsimp only [List.set_cons_zero, List.set_cons_succ])
      (try simp only [Exit.then])
      have hst := row9.1.store (P := Tryz.prog) 32 0 [S u, S n] (by exact hi) (by simp) (by simp [Value.oneCell']); refine op_store rfl rfl 32 (.tmp 5) (.tmp 39) rfl ⟨g9, 0, none⟩ (by rfl) (by rfl) hst ?_
      (try simp only [Exit.inBlock, Exit.then])
      have hr5 := Row.setCells [S u, S n] 0 w' _ row9.1
      rw [splice_all (by rfl)] at hr5
      have hp5 : Below w.heap.size w (w'.setCells g9 0 [S u, S n]) := (Chg.setCells g9 [S u, S n] 0 w').below (hp0.trans hp) (Nat.le_of_succ_le row9.2)
      have hr0 := ((Row.newAt w w.heap.size #[.string ⟨#[]⟩, .string ⟨#[]⟩] 32 rfl rfl).pu hp).other ((Chg.setCells g9 [S u, S n] 0 w').block w.heap.size (by have := row9.2; omega))
      obtain ⟨w5, hw5⟩ : ∃ x, x = w'.setCells g9 0 [S u, S n] := ⟨_, rfl⟩
      rw [← hw5] at hr5 hp5 hr0 ⊢
      clear hw5 hp
      go_wp2_with (first
        | (refine wpList_load_row rfl 32 (.tmp 5) rfl g9 [S u, S n] (by rfl) hr5 Tryz.underlying32 rfl hi ?_)
        | (refine wpList_load_row rfl 32 (.tmp 5) rfl g9 [S u, S n] (by rfl) (hr5.pu hp6) Tryz.underlying32 rfl hi ?_)
        | (go_at_call 38; refine (HP.out _).mono ?_; rintro e w6 ⟨rfl, hp6⟩)
        | (refine wpList_store_part rfl 32 (.tmp 2) (.tmp 47) rfl w.heap.size 0 [S [], S []] (by rfl) (by rfl) (hr0.pu hp6) hi (by simp) (by simp [Value.oneCell']) ?_; intro w7 hr7 hch7))
      rw [splice_all (by rfl)] at hr7
      have hrl := hr7.load (P := Tryz.prog) 32 0 2 Tryz.underlying32 rfl hi (by simp)
      (try simp only [Exit.inBlock, Exit.then])
      refine bodyPost_ret (results_cell_slot rfl _ _ rfl rfl hrl) rfl ?_
      exact ⟨rfl, hch7.below (Pu.trans hp5 hp6) (Nat.le_refl _)⟩
end Go.Proofs.YtlbdbmnkjljohaaGreat
set_option linter.unusedSimpArgs false
set_option linter.unusedVariables false
namespace Go.Proofs.YtlbdbmnkjljohaaGreat
open Go.RowKit Go.Esc
def charB (c : UInt8) : Bool := decide (33 ≤ c.toNat) && decide (c.toNat ≤ 126)
theorem nameB_no {s : Bs} {k : Nat} (hk : k < s.length) (h : charB (s[k]) = false) : nameB s = false := by
  have : s.all (fun c => decide (33 ≤ c.toNat) && decide (c.toNat ≤ 126)) = false := by
    rw [List.all_eq_false]
    exact ⟨s[k], List.getElem_mem hk, by unfold charB at h; rw [h]; simp⟩
  unfold nameB
  rw [this]; rfl
theorem nameB_all {s : Bs} (h : ∀ j (hj : j < s.length), charB (s[j]) = true) : nameB s = (decide (1 ≤ s.length) && decide (s.length ≤ 20)) := by
  have : s.all (fun c => decide (33 ≤ c.toNat) && decide (c.toNat ≤ 126)) = true := by
    rw [List.all_eq_true]
    intro x hx
    obtain ⟨i, hi, rfl⟩ := List.mem_iff_getElem.1 hx
    exact h i hi
  unfold nameB
  rw [this]; rfl
set_option maxRecDepth 100000 in
set_option maxHeartbeats 1600000 in
theorem rightW (name secret : Bs) (hn : name.length ≤ 1000000) (hs : secret.length ≤ 1000000) (w : World) :
    Calls Tryz.prog 43 #[.agg #[S name, S secret]] w fun e w' => e = .returned (.bool (userB name secret)) ∧ Pu w w' := by
  have hp0 := (Pu.refl w).alloc (.cells #[S name, S secret] 23)
  by_cases h1 : name.length < 1
  · have k1 : (name.length : Int) < 1 := by omega
    have e9 : userB name secret = false := by unfold userB nameB; simp; omega
    rw [e9]
    go_enter Tryz.func43, Tryz.ntmps43
    go_wp2_with fail
    go_ret
    exact ⟨rfl, hp0⟩
  have k1 : ¬ (name.length : Int) < 1 := by omega
  by_cases h2 : 20 < name.length
  · have k2 : (20 : Int) < name.length := by omega
    have e9 : userB name secret = false := by unfold userB nameB; simp; omega
    rw [e9]
    clear e9
    go_enter Tryz.func43, Tryz.ntmps43
    go_wp2_with fail
    go_ret
    exact ⟨rfl, hp0⟩
  have k2 : ¬ (20 : Int) < name.length := by omega
  by_cases h3 : secret.length = 32
  rotate_left
  · have k3 : ((secret.length : Int) != 32) = true := by simp; omega
    have e9 : userB name secret = false := by unfold userB; simp [h3]
    rw [e9]
    clear e9 h3
    go_enter Tryz.func43, Tryz.ntmps43
    go_wp2_with fail
    go_ret
    exact ⟨rfl, hp0⟩
  have k3 : (secret.length : Int) = 32 := by omega
  have e9 : userB name secret = nameB name := by unfold userB; simp [h3]
  rw [e9]
  have hyes : (∀ j (hj : j < name.length), charB (name[j]) = true) → nameB name = true := fun h => by rw [nameB_all h]; simp; omega
  have hno : ∀ k (hk : k < name.length), charB (name[k]) = false → nameB name = false := fun k hk h => nameB_no hk h
  obtain ⟨o, ho⟩ : ∃ o, o = nameB name := ⟨_, rfl⟩
  rw [← ho] at hyes hno ⊢
  have HYES := Lib.hid hyes
  have HNO := Lib.hid hno
  clear e9 hyes hno ho h3
  go_enter Tryz.func43, Tryz.ntmps43
  go_wp2_with (refine wpList_bytes _ rfl (.tmp 22) 9 42 5 rfl name (by first | rfl | simp [Act.eval]) Tryz.underlying9 Tryz.underlying42 Tryz.underlying5 ?_; intro w1 cap hrow hpu hcap)
  have hrow2 : Row w1 (w.heap.size + 1) 5 (cells name) := by simpa using hrow
  go_loopw [25, 4] (fun x _ wr => ∃ k : Nat, k ≤ name.length ∧ x = .int .i64 (k : Int) ∧ (∀ j (hj : j < name.length), j < k → charB (name[j]) = true) ∧ wr = w1) (fun x _ _ => name.length - (intOf x).toNat)
  case atStart => exact ⟨0, Nat.zero_le _, rfl, fun j _ h => by omega, rfl⟩
  case round =>
    obtain ⟨k, hk, rfl, hall, rfl⟩ := hrel
    by_cases hlt : k < name.length
    · have hk1 : (k : Int) < name.length := by omega
      have hk0 : (0 : Int) ≤ k := by omega
      have hc := hrow2.byte k hlt
      obtain ⟨c, hce⟩ : ∃ c, c = name[k] := ⟨_, rfl⟩
      rw [← hce] at hc
      have hcl := c.toNat_lt
      by_cases hg : charB c = true
      · have hg' := hg
        unfold charB at hg'
        simp at hg'
        have g1 : ¬ (c.toNat : Int) < 33 := by omega
        have g2 : ¬ (126 : Int) < c.toNat := by omega
        have HCE := Lib.hid hce
        have HG := Lib.hid hg
        clear hg hg' hce
        go_wp2_with fail
        go_roundw
        case rel =>
          refine ⟨k + 1, by omega, by go_num, fun j hj hjk => ?_, by first | rfl | trivial⟩
          by_cases hjk2 : j < k
          · exact hall j hj hjk2
          · obtain rfl : j = k := by omega
            rw [← HCE.out]; exact HG.out
        case measure => simp [intOf]; omega
      · have hf : charB c = false := by simpa using hg
        have ho := HNO.out k hlt (by rw [← hce]; exact hf)
        subst ho
        by_cases g1 : c.toNat < 33
        · have g1' : (c.toNat : Int) < 33 := by omega
          clear hf hg hce
          go_wp2_with fail
          go_ret
          exact ⟨rfl, hp0.trans hpu⟩
        · have g1' : ¬ (c.toNat : Int) < 33 := by omega
          have g2 : (126 : Int) < c.toNat := by unfold charB at hf; simp at hf; omega
          clear hf hg hce
          go_wp2_with fail
          go_ret
          exact ⟨rfl, hp0.trans hpu⟩
    · obtain rfl : k = name.length := by omega
      have ho := HYES.out (fun j hj => hall j hj hj)
      subst ho
      have hlt' : decide ((name.length : Int) < name.length) = false := by simp
      go_wp2_with fail
      go_ret
      exact ⟨rfl, hp0.trans hpu⟩
set_option maxRecDepth 100000 in
set_option maxHeartbeats 1600000 in
theorem refName (s : Bs) (hs : s.length ≤ 9223372036854775807) (w : World) :
    Calls Tryz.prog 35 #[S s] w fun e w' => e = .returned (.bool (nameB s)) ∧ w' = w := by
  have hyes : (∀ j (hj : j < s.length), charB (s[j]) = true) → nameB s = (decide (1 ≤ s.length) && decide (s.length ≤ 20)) := fun h => nameB_all h
  have hno : ∀ k (hk : k < s.length), charB (s[k]) = false → nameB s = false := fun k hk h => nameB_no hk h
  obtain ⟨o, ho⟩ : ∃ o, o = nameB s := ⟨_, rfl⟩
  rw [← ho] at hyes hno ⊢
  have HYES := Lib.hid hyes
  have HNO := Lib.hid hno
  clear hyes hno ho
  go_enter Tryz.func35, Tryz.ntmps35
  go_wp2_with fail
  go_loop [3] (fun x => ∃ k : Nat, k ≤ s.length ∧ x = .int .i64 (k : Int) ∧ (∀ j (hj : j < s.length), j < k → charB (s[j]) = true)) (fun x => s.length - (intOf x).toNat)
  case atStart => exact ⟨0, Nat.zero_le _, rfl, fun j _ h => by omega⟩
  case round =>
    obtain ⟨k, hk, rfl, hall⟩ := hrel
    by_cases hlt : k < s.length
    · have hk1 : (k : Int) < s.length := by omega
      have hk0 : (0 : Int) ≤ k := by omega
      obtain ⟨c, hce⟩ : ∃ c, c = s[k] := ⟨_, rfl⟩
      have hc : s[k] = c := hce.symm
      have hcl := c.toNat_lt
      by_cases hg : charB c = true
      · have hg' := hg
        unfold charB at hg'
        simp at hg'
        have g1 : ¬ (c.toNat : Int) < 33 := by omega
        have g2 : ¬ (126 : Int) < c.toNat := by omega
        have HCE := Lib.hid hce
        have HG := Lib.hid hg
        clear hg hg' hce
        go_wp2_with fail
        go_round
        case rel =>
          refine ⟨k + 1, by omega, by go_num, fun j hj hjk => ?_⟩
          by_cases hjk2 : j < k
          · exact hall j hj hjk2
          · obtain rfl : j = k := by omega
            rw [← HCE.out]; exact HG.out
        case measure => simp [intOf]; omega
      · have hf : charB c = false := by simpa using hg
        have ho := HNO.out k hlt (by rw [← hce]; exact hf)
        subst ho
        by_cases g1 : c.toNat < 33
        · have g1' : (c.toNat : Int) < 33 := by omega
          clear hf hg hce
          go_wp2_with fail
          go_ret
          exact ⟨rfl, rfl⟩
        · have g1' : ¬ (c.toNat : Int) < 33 := by omega
          have g2 : (126 : Int) < c.toNat := by unfold charB at hf; simp at hf; omega
          clear hf hg hce
          go_wp2_with fail
          go_ret
          exact ⟨rfl, rfl⟩
    · obtain rfl : k = s.length := by omega
      have ho := HYES.out (fun j hj => hall j hj hj)
      have hlt' : decide ((s.length : Int) < s.length) = false := by simp
      by_cases h1 : 1 ≤ s.length
      · have k1 : (1 : Int) ≤ s.length := by omega
        by_cases h2 : s.length ≤ 20
        · have k2 : (s.length : Int) ≤ 20 := by omega
          have e9 : o = true := by rw [ho]; simp [h1, h2]
          subst e9
          clear ho
          go_wp2_with fail
          go_ret
          exact ⟨rfl, rfl⟩
        · have k2 : ¬ (s.length : Int) ≤ 20 := by omega
          have e9 : o = false := by rw [ho]; simp [h2]
          subst e9
          clear ho
          go_wp2_with fail
          go_ret
          exact ⟨rfl, rfl⟩
      · have k1 : ¬ (1 : Int) ≤ s.length := by omega
        have e9 : o = false := by rw [ho]; simp [h1]
        subst e9
        clear ho
        go_wp2_with fail
        go_ret
        exact ⟨rfl, rfl⟩
set_option maxRecDepth 100000 in
theorem refUser (name secret : Bs) (hn : name.length ≤ 1000000) (hs : secret.length ≤ 1000000) (w : World) :
    Calls Tryz.prog 14 #[.agg #[S name, S secret]] w fun e w' => e = .returned (.bool (userB name secret)) ∧ Pu w w' := by
  have hp0 := (Pu.refl w).alloc (.cells #[S name, S secret] 23)
  have hN := fun w => refName name (by omega) w
  unfold userB
  obtain ⟨o, ho⟩ : ∃ o, o = nameB name := ⟨_, rfl⟩
  rw [← ho] at hN ⊢
  have HN := Lib.hid hN
  clear hN ho
  by_cases h3 : secret.length = 32
  · have k3 : (secret.length : Int) = 32 := by omega
    rw [show decide (secret.length = 32) = true by simp [h3]]
    clear h3
    cases o with
    | true =>
      go_enter Tryz.func14, Tryz.ntmps14
      go_wp2_with (go_at_call 35; refine (HN.out _).mono ?_; rintro e w1 ⟨rfl, rfl⟩)
      go_ret
      exact ⟨rfl, hp0⟩
    | false =>
      go_enter Tryz.func14, Tryz.ntmps14
      go_wp2_with (go_at_call 35; refine (HN.out _).mono ?_; rintro e w1 ⟨rfl, rfl⟩)
      go_ret
      exact ⟨rfl, hp0⟩
  · have k3 : ((secret.length : Int) == 32) = false := by simp; omega
    rw [show decide (secret.length = 32) = false by simp [h3]]
    clear h3
    cases o with
    | true =>
      go_enter Tryz.func14, Tryz.ntmps14
      go_wp2_with (go_at_call 35; refine (HN.out _).mono ?_; rintro e w1 ⟨rfl, rfl⟩)
      go_ret
      exact ⟨rfl, hp0⟩
    | false =>
      go_enter Tryz.func14, Tryz.ntmps14
      go_wp2_with (go_at_call 35; refine (HN.out _).mono ?_; rintro e w1 ⟨rfl, rfl⟩)
      go_ret
      exact ⟨rfl, hp0⟩
end Go.Proofs.YtlbdbmnkjljohaaGreat
namespace Go.Esc
open Go Go.RowKit Go.Maps
/-- Every value reads as itself. -/
def heldR : Value → Option (DataW Value × List MemPlace) := fun v => some (.held v, [])
/-- How keys are written. -/
structure KeyOf (P : Program) (kt : TypeId) {K : Type} (lit : K → Lit) (val : K → Value) (ok : K → Prop) : Prop where
  keyed : Keyed P kt
  inj : ∀ a b, lit a = lit b → a = b
  isKey : ∀ a, WideAt.IsKeyLit (lit a)
  reads : ∀ a, ok a → keyOf P kt (val a) = some (lit a)
section
variable {P : Program} {kt : TypeId} {K : Type} {lit : K → Lit} {val : K → Value} {ok : K → Prop}
/-- Block b is a map of c entries that holds f. -/
def MapAt (P : Program) (kt : TypeId) {K : Type} (lit : K → Lit) (w : World) (b c : Nat) (f : K → Option Value) : Prop :=
  ∃ D : DataW Value, w.ownsMap P kt heldR b c D ∧ Tidy D ∧ Maps.size D = c ∧ ∀ k, Maps.has D (lit k) = (f k).isSome ∧ ∀ z, D.atKey (lit k) (.held z) = .held ((f k).getD z)
theorem MapAt.lt {w : World} {b c : Nat} {f : K → Option Value} (h : MapAt P kt lit w b c f) : b < w.heap.size := by
  obtain ⟨D, h, _⟩ := h; exact h.lt
theorem MapAt.made (w : World) : MapAt P kt lit (w.alloc (.map #[] 0)) w.heap.size 0 (fun _ => none) :=
  ⟨.map [], World.ownsMap_made w P kt heldR, tidy_empty, rfl, fun _ => ⟨rfl, fun _ => rfl⟩⟩
theorem MapAt.other {w w' : World} {b c : Nat} {f : K → Option Value} (h : MapAt P kt lit w b c f) (hb : w'.heap[b]? = w.heap[b]?) : MapAt P kt lit w' b c f := by
  obtain ⟨D, ⟨es, clock, he, r⟩, r2⟩ := h
  exact ⟨D, ⟨es, clock, hb.trans he, r⟩, r2⟩
theorem MapAt.pu {w w' : World} {b c : Nat} {f : K → Option Value} (h : MapAt P kt lit w b c f) (hp : Pu w w') : MapAt P kt lit w' b c f := h.other (hp.block b h.lt)
theorem zeroHeld {e : TypeId} {z : Value} {w : World} (_ : (zeroValue e).run P w = .ok z w) : heldR z = some (.held z, []) := rfl
theorem MapAt.get (hK : KeyOf P kt lit val ok) {w : World} {b c : Nat} {f : K → Option Value} (h : MapAt P kt lit w b c f) {t e : TypeId} (ht : P.underlying t = some (.map kt e)) {z : Value} (hz : (zeroValue e).run P w = .ok z w) (k : K) (hk : ok k) :
    (Instr.lookup t (.map (some b)) (val k) false).run P w = .ok ((f k).getD z) w := by
  obtain ⟨D, ho, _, _, hf⟩ := h
  obtain ⟨v, ps, hrun, hv⟩ := ho.lookup hK.keyed ht hz (zd := .held z) (zp := []) rfl (hK.reads k hk)
  simp only [heldR, Option.some.injEq, Prod.mk.injEq] at hv
  have := hv.1
  rw [(hf k).2 z] at this
  cases this
  exact hrun
theorem MapAt.get2 (hK : KeyOf P kt lit val ok) {w : World} {b c : Nat} {f : K → Option Value} (h : MapAt P kt lit w b c f) {t e : TypeId} (ht : P.underlying t = some (.map kt e)) {z : Value} (hz : (zeroValue e).run P w = .ok z w) (k : K) (hk : ok k) :
    (Instr.lookup t (.map (some b)) (val k) true).run P w = .ok (.tuple #[(f k).getD z, .bool (f k).isSome]) w := by
  obtain ⟨D, ho, _, _, hf⟩ := h
  obtain ⟨v, ps, hrun, hv⟩ := ho.look_ok hK.keyed ht hz (zd := .held z) (zp := []) rfl (hK.reads k hk)
  simp only [heldR, Option.some.injEq, Prod.mk.injEq] at hv
  have := hv.1
  rw [(hf k).2 z] at this
  cases this
  rw [(hf k).1] at hrun
  exact hrun
theorem MapAt.len {w : World} {b c : Nat} {f : K → Option Value} (h : MapAt P kt lit w b c f) {t e : TypeId} (ht : P.underlying t = some (.map kt e)) (ty : TypeId) : (Builtin.len_ #[t] ty #[.map (some b)]).run P w = .ok (.int .i64 c) w := by
  obtain ⟨D, ho, _, hs, _⟩ := h
  have := ho.len ht ty
  rw [hs] at this
  exact this
variable [DecidableEq K]
def upd (f : K → Option Value) (k : K) (v : Option Value) : K → Option Value := fun x => if x = k then v else f x
theorem MapAt.set (hK : KeyOf P kt lit val ok) {w : World} {b c : Nat} {f : K → Option Value} (h : MapAt P kt lit w b c f) {t e : TypeId} (ht : P.underlying t = some (.map kt e)) (hc : c < maxLen) (k : K) (hk : ok k) (v : Value) :
    ∃ w', (Instr.mapUpdate t (.map (some b)) (val k) v).run P w = .ok () w' ∧ MapAt P kt lit w' b (if (f k).isSome then c else c + 1) (upd f k (some v)) ∧ w.grownBy w' (some b) := by
  obtain ⟨D, ho, hT, hs, hf⟩ := h
  obtain ⟨w', hrun, ho', hg⟩ := ho.update hK.keyed ht hc (hK.reads k hk) (show heldR v = some (.held v, []) from rfl)
  have hsz := size_put (k := lit k) hT (.held v)
  have hT' := hT.put (hK.isKey k) (.held v)
  rw [(hf k).1, hs] at hsz
  obtain ⟨es, clock, he, F, hn, hD⟩ := ho'
  have hes : es.size = (if (f k).isSome then c else c + 1) := by
    rw [← hsz, hD]; simp [Maps.size, length_sorted]
  refine ⟨w', hrun, ⟨D.put (lit k) (.held v), ⟨es, clock, he, F, Nat.le_of_eq hes, hD⟩, hT', hsz, fun x => ?_⟩, hg⟩
  unfold upd
  by_cases hx : x = k
  · subst hx
    rw [if_pos rfl]
    exact ⟨has_put_same hT.isMap (hK.isKey x) _, fun z => atKey_put_same hT.isMap (hK.isKey x) _ _⟩
  · rw [if_neg hx]
    have hne : lit x ≠ lit k := fun e => hx (hK.inj _ _ e)
    exact ⟨by rw [has_put_other hne]; exact (hf x).1, fun z => by rw [atKey_put_other hne]; exact (hf x).2 z⟩
theorem MapAt.del (hK : KeyOf P kt lit val ok) {w : World} {b c : Nat} {f : K → Option Value} (h : MapAt P kt lit w b c f) {t e : TypeId} (ht : P.underlying t = some (.map kt e)) (k : K) (hk : ok k) (ty : TypeId) :
    ∃ w', (Builtin.delete_ #[t, kt] ty #[.map (some b), val k]).run P w = .ok (.tuple #[]) w' ∧ MapAt P kt lit w' b (if (f k).isSome then c - 1 else c) (upd f k none) ∧ w.grownBy w' (some b) := by
  obtain ⟨D, ho, hT, hs, hf⟩ := h
  obtain ⟨w', hrun, ho', hg⟩ := ho.drop hK.keyed ht (hK.reads k hk) ty
  have hsz := size_del (k := lit k) hT
  have hT' := hT.del (lit k)
  rw [(hf k).1, hs] at hsz
  have hsz' : Maps.size (D.del (lit k)) = (if (f k).isSome then c - 1 else c) := by
    split
    · next h => rw [if_pos h] at hsz; omega
    · next h => rw [if_neg h] at hsz; omega
  obtain ⟨es, clock, he, F, hn, hD⟩ := ho'
  have hes : es.size = (if (f k).isSome then c - 1 else c) := by
    rw [← hsz', hD]; simp [Maps.size, length_sorted]
  refine ⟨w', hrun, ⟨D.del (lit k), ⟨es, clock, he, F, Nat.le_of_eq hes, hD⟩, hT', hsz', fun x => ?_⟩, hg.grown⟩
  unfold upd
  by_cases hx : x = k
  · subst hx
    rw [if_pos rfl]
    exact ⟨has_del_same, fun z => atKey_del_same _⟩
  · rw [if_neg hx]
    have hne : lit x ≠ lit k := fun e => hx (hK.inj _ _ e)
    exact ⟨by rw [has_del_other hne]; exact (hf x).1, fun z => by rw [atKey_del_other hne]; exact (hf x).2 z⟩
end
theorem nil_get {P : Program} {kt : TypeId} {K : Type} {lit : K → Lit} {val : K → Value} {ok : K → Prop} (hK : KeyOf P kt lit val ok) {w : World} {t e : TypeId} (ht : P.underlying t = some (.map kt e)) {z : Value} (hz : (zeroValue e).run P w = .ok z w) (k : K) (hk : ok k) (c : Bool) :
    (Instr.lookup t (.map none) (val k) c).run P w = .ok (if c then .tuple #[z, .bool false] else z) w := Maps.look_nil c hK.keyed ht hz (hK.reads k hk)
section
variable {P : Program} {kt : TypeId} {K : Type} {lit : K → Lit} {val : K → Value} {ok : K → Prop}
theorem wpList_map_get (w : World) {ops : Array Oper} {rest : List Oper} {o : Oper} {a : Act} {Q : Exit → Act → World → Prop}
    (hg : o.guard = none) (m x : Operand) (t : TypeId) (hop : o.op = Op.lookup t m x false)
    (e : TypeId) (hK : KeyOf P kt lit val ok) (ht : P.underlying t = some (.map kt e)) {z : Value} (hz : (zeroValue e).run P w = .ok z w) (b c : Nat) (f : K → Option Value) (hm : a.eval m = .map (some b)) (hown : MapAt P kt lit w b c f) (k : K) (hk : ok k) (hx : a.eval x = val k)
    (hQ : wpList P ops Q rest (a.put o.dst ((f k).getD z)) w) : wpList P ops Q (o :: rest) a w := by
  refine wpList_plain hg fun K' hK' => ?_
  unfold Oper.wp
  simp [execOp, hop, hm, hx, hown.get hK ht hz k hk, Result.andThen]
  exact hK' _ _ hQ
theorem wpList_map_get2 (w : World) {ops : Array Oper} {rest : List Oper} {o : Oper} {a : Act} {Q : Exit → Act → World → Prop}
    (hg : o.guard = none) (m x : Operand) (t : TypeId) (hop : o.op = Op.lookup t m x true)
    (e : TypeId) (hK : KeyOf P kt lit val ok) (ht : P.underlying t = some (.map kt e)) {z : Value} (hz : (zeroValue e).run P w = .ok z w) (b c : Nat) (f : K → Option Value) (hm : a.eval m = .map (some b)) (hown : MapAt P kt lit w b c f) (k : K) (hk : ok k) (hx : a.eval x = val k)
    (hQ : wpList P ops Q rest (a.put o.dst (.tuple #[(f k).getD z, .bool (f k).isSome])) w) : wpList P ops Q (o :: rest) a w := by
  refine wpList_plain hg fun K' hK' => ?_
  unfold Oper.wp
  simp [execOp, hop, hm, hx, hown.get2 hK ht hz k hk, Result.andThen]
  exact hK' _ _ hQ
variable [DecidableEq K] in
theorem wpList_map_set (w : World) {ops : Array Oper} {rest : List Oper} {o : Oper} {a : Act} {Q : Exit → Act → World → Prop}
    (hg : o.guard = none) (m x v : Operand) (t : TypeId) (hop : o.op = Op.mapUpdate t m x v)
    (e : TypeId) (hK : KeyOf P kt lit val ok) (ht : P.underlying t = some (.map kt e)) (b c : Nat) (f : K → Option Value) (hm : a.eval m = .map (some b)) (hown : MapAt P kt lit w b c f) (hc : c < maxLen) (k : K) (hk : ok k) (hx : a.eval x = val k) (u : Value) (hv : a.eval v = u)
    (hQ : ∀ w', MapAt P kt lit w' b (if (f k).isSome then c else c + 1) (upd f k (some u)) → w.grownBy w' (some b) → wpList P ops Q rest (a.put o.dst undef) w') : wpList P ops Q (o :: rest) a w := by
  refine wpList_plain hg fun K' hK' => ?_
  obtain ⟨w', hrun, r1, r2⟩ := hown.set hK ht hc k hk u
  unfold Oper.wp
  simp [execOp, hop, hm, hx, hv, hrun, Result.andThen]
  exact hK' _ _ (hQ w' r1 r2)
variable [DecidableEq K] in
theorem wpList_map_del (w : World) {ops : Array Oper} {rest : List Oper} {o : Oper} {a : Act} {Q : Exit → Act → World → Prop}
    (hg : o.guard = none) (m x : Operand) (t : TypeId) (hop : o.op = Op.call { callee := Callee.builtin Builtin.delete, args := #[m, x], argTypes := #[t, kt] })
    (e : TypeId) (hK : KeyOf P kt lit val ok) (ht : P.underlying t = some (.map kt e)) (b c : Nat) (f : K → Option Value) (hm : a.eval m = .map (some b)) (hown : MapAt P kt lit w b c f) (k : K) (hk : ok k) (hx : a.eval x = val k)
    (hQ : ∀ w', MapAt P kt lit w' b (if (f k).isSome then c - 1 else c) (upd f k none) → w.grownBy w' (some b) → wpList P ops Q rest (a.put o.dst (.tuple #[])) w') : wpList P ops Q (o :: rest) a w := by
  refine wpList_plain hg fun K' hK' => ?_
  obtain ⟨w', hrun, r1, r2⟩ := hown.del hK ht k hk o.type
  unfold Oper.wp
  simp [execOp, hop, resolve, invoke, builtin, hm, hx, hrun, Result.andThen]
  exact hK' _ _ (hQ w' r1 r2)
theorem wpList_map_len (w : World) {ops : Array Oper} {rest : List Oper} {o : Oper} {a : Act} {Q : Exit → Act → World → Prop}
    (hg : o.guard = none) (m : Operand) (t : TypeId) (hop : o.op = Op.call { callee := Callee.builtin Builtin.len, args := #[m], argTypes := #[t] })
    (e : TypeId) (ht : P.underlying t = some (.map kt e)) (b c : Nat) (f : K → Option Value) (hm : a.eval m = .map (some b)) (hown : MapAt P kt lit w b c f)
    (hQ : wpList P ops Q rest (a.put o.dst (.int .i64 c)) w) : wpList P ops Q (o :: rest) a w := by
  refine wpList_plain hg fun K' hK' => ?_
  unfold Oper.wp
  simp [execOp, hop, resolve, invoke, builtin, hm, hown.len ht o.type, Result.andThen]
  exact hK' _ _ hQ
end
/-- Keys that are numbers. -/
def litI (n : Nat) : Lit := .int .i64 n
def valI (n : Nat) : Value := .int .i64 n
theorem keyI {P : Program} {kt : TypeId} (h : P.underlying kt = some (.int .i64)) : KeyOf P kt litI valI (fun n => n ≤ 1000000) :=
  ⟨int_keyed h, fun a b e => by simp [litI] at e; omega, fun _ => trivial, fun a ha => keyOf_int_mk h (by simp [Lit.wf, IntKind.min, IntKind.max, IntKind.signed, IntKind.bits]; omega)⟩
/-- Keys that are texts. -/
def litS (l : List UInt8) : Lit := .string l
theorem keyS {P : Program} {kt : TypeId} (h : P.underlying kt = some .string) : KeyOf P kt litS S (fun l => l.length ≤ 1000000) :=
  ⟨string_keyed h, fun a b e => by simpa [litS] using e, fun _ => trivial, fun a ha => by
    have := WideMaps.keyOf_string_mk (P := P) h (s := bs a) (by simp [bs, maxLen, ByteArray.size]; omega)
    exact this⟩
end Go.Esc
namespace Go.Proofs.YtlbdbmnkjljohaaGreat
open Go.RowKit Go.Esc
/-- w' is w but for new blocks and those of G. -/
structure Cg (G : Nat → Prop) (w w' : World) : Prop where
  os : w'.os = w.os
  tape : w'.tape = w.tape
  output : w'.output = w.output
  size : w.heap.size ≤ w'.heap.size
  block : ∀ k, k < w.heap.size → ¬ G k → w'.heap[k]? = w.heap[k]?
theorem Cg.refl (G : Nat → Prop) (w : World) : Cg G w w := ⟨rfl, rfl, rfl, Nat.le_refl _, fun _ _ _ => rfl⟩
theorem Cg.pu {G : Nat → Prop} {a b c : World} (h : Cg G a b) (hp : Pu b c) : Cg G a c := ⟨hp.os.trans h.os, hp.tape.trans h.tape, hp.output.trans h.output, Nat.le_trans h.size hp.size, fun i hi hg => (hp.block i (Nat.lt_of_lt_of_le hi h.size)).trans (h.block i hi hg)⟩
theorem Cg.grown {G : Nat → Prop} {a b c : World} {g : Nat} (h : Cg G a b) (hp : b.grownBy c (some g)) (hg : G g) : Cg G a c := ⟨hp.os.trans h.os, hp.tape.trans h.tape, hp.output.trans h.output, Nat.le_trans h.size hp.size, fun i hi hn => (hp.block i (Nat.lt_of_lt_of_le hi h.size) (fun e => hn (by cases e; exact hg))).trans (h.block i hi hn)⟩
theorem Cg.cell {G : Nat → Prop} {a b : World} (h : Cg G a b) {g j : Nat} (hg : g < a.heap.size) (hn : ¬ G g) : b.cell? ⟨g, j, none⟩ = a.cell? ⟨g, j, none⟩ := by
  have := h.block g hg hn
  simp only [World.cell?, this]
theorem Cg.grown' {G : Nat → Prop} {a b c : World} {row : Option Nat} (h : Cg G a b) (hp : b.grownBy c row) (hg : ∀ q, row = some q → G q ∨ a.heap.size ≤ q) : Cg G a c :=
  ⟨hp.os.trans h.os, hp.tape.trans h.tape, hp.output.trans h.output, Nat.le_trans h.size hp.size, fun j hj hn => (hp.block j (Nat.lt_of_lt_of_le hj h.size) (fun e => by
    rcases hg j e.symm with h1 | h1
    · exact hn h1
    · omega)).trans (h.block j hj hn)⟩
theorem Cg.row {G : Nat → Prop} {w w' : World} (h : Cg G w w') {k : Nat} {e : TypeId} {xs : List Value} (hr : Row w k e xs) (hk : ¬ G k) : Row w' k e xs := hr.other (h.block k hr.lt hk)
theorem Cg.below {G : Nat → Prop} {B : Nat} {a w w' : World} (h : Below B a w) (k : Cg G w w') (hg : ∀ g, G g → B ≤ g) (hB : B ≤ w.heap.size) : Below B a w' :=
  h.trans ⟨k.os, k.tape, k.output, k.size, fun i hi => k.block i (by omega) (fun hG => by have := hg i hG; omega)⟩
theorem Cg.trans {G : Nat → Prop} {a b c : World} (h : Cg G a b) (k : Cg G b c) : Cg G a c :=
  ⟨k.os.trans h.os, k.tape.trans h.tape, k.output.trans h.output, Nat.le_trans h.size k.size, fun i hi hg => (k.block i (Nat.lt_of_lt_of_le hi h.size) hg).trans (h.block i hi hg)⟩
/-- The second step may change blocks that are new since the first. -/
theorem Cg.andThen {G H : Nat → Prop} {a b c : World} (h : Cg G a b) (k : Cg H b c) (hH : ∀ g, H g → G g ∨ a.heap.size ≤ g) : Cg G a c :=
  ⟨k.os.trans h.os, k.tape.trans h.tape, k.output.trans h.output, Nat.le_trans h.size k.size, fun i hi hg => (k.block i (Nat.lt_of_lt_of_le hi h.size) (fun hk => by
    rcases hH i hk with h1 | h1
    · exact hg h1
    · omega)).trans (h.block i hi hg)⟩
theorem Cg.mono {G H : Nat → Prop} {a b : World} (h : Cg G a b) (hG : ∀ g, G g → H g) : Cg H a b := ⟨h.os, h.tape, h.output, h.size, fun i hi hn => h.block i hi fun hg => hn (hG i hg)⟩
theorem Cg.ofPu {G : Nat → Prop} {a b : World} (h : Pu a b) : Cg G a b := ⟨h.os, h.tape, h.output, h.size, fun i hi _ => h.block i hi⟩
theorem Cg.ofBut {G : Nat → Prop} {a b : World} {g : Nat} (h : But g a b) (hg : G g) : Cg G a b := ⟨h.os, h.tape, h.output, h.size, fun i hi hn => h.block i hi (fun e => hn (e ▸ hg))⟩
theorem Cg.toPu {G : Nat → Prop} {a b : World} (h : Cg G a b) (hG : ∀ g, G g → a.heap.size ≤ g) : Pu a b := ⟨h.os, h.tape, h.output, h.size, fun i hi => h.block i hi (fun hg => by have := hG i hg; omega)⟩
end Go.Proofs.YtlbdbmnkjljohaaGreat
