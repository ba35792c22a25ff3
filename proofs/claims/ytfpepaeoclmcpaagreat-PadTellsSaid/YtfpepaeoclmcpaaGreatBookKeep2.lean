/- Package escutcheonbook: one more list of numbers is kept: the walk. -/
import Derived.Test.YtfpepaeoclmcpaaGreatBookKeep
import Derived.Test.YtfpepaeoclmcpaaGreatBookSizes
set_option linter.unusedSimpArgs false
set_option linter.unusedVariables false
namespace Go.Proofs.YtfpepaeoclmcpaaGreat
open Go.RowKit Go.Esc
theorem cell_row {w : World} {k : Nat} {e : TypeId} {c : Value} (h : Row w k e [c]) : ∀ j u, [c][j]? = some u → w.cell? ((⟨k, 0, none⟩ : Addr).add j) = some u := by
  intro j u hj
  match j, hj with
  | 0, hj =>
    simp at hj
    subst hj
    have := h.cell 0 (by simp)
    simpa [Addr.add] using this
theorem Nils.set {xs : List Value} (h : Nils xs) (k : Nat) (v : Value) (hk : k = 2 ∨ k = 3) : Nils (xs.set k v) :=
  ⟨by simp [h.1], fun j hj h2 h3 => by rw [List.getElem?_set_ne (by omega)]; exact h.2 j hj h2 h3⟩
theorem op_mid {ops : Array Oper} {Q : Exit → Act → World → Prop} {i : Nat} {o : Oper} {a' : Act} (ho : ops[i]? = some o) (b : Nat) (e : TypeId) (xs : List Value) (v2 v3 : Value) (ss cs : List Value) (ls ks : List (List Int)) (l : List Int) (g : Nat) (w3 w' : World) (hr : Row w3 b e xs)
    (hk : Kp w3 b v2 v3 ss cs ls ks) (hp : Pu w3 w') (hgw : g < w3.heap.size) (hg3 : v3.ownBlock = none ∨ v3.ownBlock = some g) (n : Nat) (hn : cs.length = n) (hm : n < 250) (hs2 : 0 < ss.length)
    (s x : Operand) (hgd : o.guard = none) (hop : o.op = Op.call { callee := Callee.builtin Builtin.append, args := #[s, x], argTypes := #[25, 25] })
    (hs : a'.eval s = v3) (ad : Addr) (cp : Nat) (hx : a'.eval x = .slice (some ad) 1 cp) (c : Value) (hc : ∀ j u, [c][j]? = some u → w'.cell? (ad.add j) = some u) (hcp : IsRowCp g w3.heap.size l c w') (hd : o.dst.isSome = true) :
    wpOp Tryz.prog ops Q i (fun a'' w'' => ∃ v, a'' = a'.put o.dst v ∧ IsRowMid b e (n + 1) xs v2 ss cs ls (ks ++ [l]) (if o.dst.isSome then v else undef) w'' ∧ But g w' w'') a' w' := by
  obtain ⟨i0, hii, hz0, hz1, hz2⟩ := info_parts infoL
  subst hn
  have hk' := hk.pu hp
  obtain ⟨k, cap, rfl, hgB, hoc⟩ := hcp
  have hkc := hoc.lt k rfl
  have hb := hr.lt
  have hsz := hp.size
  refine op_appendR (R := But g w') ho hgd s x 25 hop (b+1) 34 i0 (.slice none 0 0) 1 24 Tryz.underlying25 hii hz0 hz1 hz2 rfl (by decide) v3 cs.length cs hs hk'.o3 ad 1 cp [_] hx rfl hc (by simp [Value.oneCell']) (by unfold maxLen; omega) (by omega) (by omega) hd ?_
  intro v' w'' hA hB hD
  have hbut : But g w' w'' := ⟨hB.os, hB.tape, hB.output, hB.size, fun j hj hne => hB.block j hj (fun e => by
    rcases hg3 with h | h
    · rw [h] at e; cases e
    · rw [h] at e; cases e; exact hne rfl)⟩
  have ap2 : Ap v2 (.slice (some ⟨k, 0, none⟩) l.length cap) := fun q h2 h3 => by
    have := (hk.o2.lt q h2).2
    obtain rfl : k = q := by simpa [Value.ownBlock] using h3
    omega
  have ap3 : Ap v3 (.slice (some ⟨k, 0, none⟩) l.length cap) := fun q h2 h3 => by
    have := (hk.o3.lt q h2).2
    obtain rfl : k = q := by simpa [Value.ownBlock] using h3
    omega
  have hkp := hk'.push3 (ownB hoc (by omega)) ap2 ap3 hA hB hD
  obtain ⟨q, cq, rfl, _, _⟩ := own_form hA (by omega)
  refine ⟨⟨q, cq, rfl, _, (hr.pu hp).grown hB ?_, hkp⟩, hbut⟩
  intro e'
  have := (hk.o3.lt b e'.symm).1
  omega
set_option maxRecDepth 100000 in
set_option maxHeartbeats 3200000 in
theorem keepInts (b : Nat) (e : TypeId) (xs : List Value) (v2 v3 s : Value) (ss cs : List Value) (ls : List (List Int)) (l : List Int) (w : World) (hr : Row w b e xs) (hn : Nils xs) (h2 : xs[2]? = some v2) (h3 : xs[3]? = some v3)
    (hk : Kp w b v2 v3 ss cs ls ls) (hm : ss.length < 250) (hl0 : 0 < l.length) (hl1 : l.length ≤ 100000)
    (hs : w.ownsRow (b+1) 3 1 s l.length (ints l)) (as2 : Ap v2 s) (as3 : Ap v3 s) (ass : ∀ t ∈ ss, Ap t s) :
    Calls Tryz.prog 5 #[.pointer (some ⟨b, 0, none⟩), s] w fun e' w' => e' = .returned (.tuple #[]) ∧ ∃ xs' v2' v3' c, Row w' b e xs' ∧ Nils xs' ∧ xs'[2]? = some v2' ∧ xs'[3]? = some v3' ∧ Kp w' b v2' v3' (ss ++ [s]) (cs ++ [c]) (ls ++ [l]) (ls ++ [l]) ∧ Below b w w' := by
  obtain ⟨i0, hii, hz0, hz1, hz2⟩ := info_parts infoL
  obtain ⟨a2, c2, rfl, -⟩ := own_slice hk.o2
  obtain ⟨a3, c3, rfl, -⟩ := own_slice hk.o3
  have hcl : cs.length = ss.length := by rw [hk.hk, hk.hl]
  rw [hcl] at h3 hk as3
  have hx : xs.length = 14 := hn.1
  have b0 : b < w.heap.size := hr.lt
  have c2' := hr.cell 2 (by omega)
  have f2' := hr.frozen 2 (by omega)
  rw [← List.getElem?_eq_getElem, h2] at c2'
  have hmi : (ss.length : Int) < 250 := by omega
  obtain ⟨gs, cps, rfl, hgs, hgs2⟩ := own_form hs hl0
  have H2 := Lib.hid h2
  have H3 := Lib.hid h3
  have HN := Lib.hid hn
  have HCL := Lib.hid hcl
  have HL1 := Lib.hid hl1
  have HASS := Lib.hid ass
  have HX := Lib.hid hx
  clear h2 h3 hn hcl hl1 ass hx
  have hcA : (w.alloc (.cells #[.slice (some ⟨gs, 0, none⟩) l.length cps] 34)).cell? ⟨b, 2, none⟩ = some (.slice a2 ss.length c2) := by
    have := (hr.alloc (.cells #[.slice (some ⟨gs, 0, none⟩) l.length cps] 34)).cell 2 (by have := HX.out; omega)
    rw [← List.getElem?_eq_getElem, H2.out] at this
    exact this
  have hpA : Pu w (w.alloc (.cells #[.slice (some ⟨gs, 0, none⟩) l.length cps] 34)) := (Pu.refl w).alloc _
  go_enter Tryz.func5, Tryz.ntmps5
  go_wp2_with (at_builtin; refine wpList_append_own_at _ rfl _ _ 25 rfl (b+1) 34 i0 (.slice none 0 0) 1 24 Tryz.underlying25 hii hz0 hz1 hz2 rfl (by decide) (.slice a2 ss.length c2) ss.length _ rfl (hk.o2.alloc _) ⟨w.heap.size, 0, none⟩ 1 1 [.slice (some ⟨gs, 0, none⟩) l.length cps] rfl rfl (cell_one_new' _ _ _) (by simp [Value.oneCell']) (by unfold maxLen; omega) (by omega) (by simp; omega) ?_; intro v2' w2 hown2 hgrow2 _ hat2
               obtain ⟨g2, cp2, rfl, -, -⟩ := own_form hown2 (by omega)
               have hr2 := grown_row hgrow2 (hr.pu hpA) (by intro h; have := (hk.o2.lt b h.symm).1; omega)
               have f2 := hr2.frozen 2 (by have := HX.out; omega)
               have c22 : ∃ u, w2.cell? ⟨b, 2, none⟩ = some u := ⟨_, hr2.cell 2 (by have := HX.out; omega)⟩
               obtain ⟨u22, c22⟩ := c22
               have hk2 := ((hk.pu hpA).push2 (own_puQ hs hpA) as2 as3 HASS.out hown2 hgrow2 hat2).store 2 (.slice (some ⟨g2, 0, none⟩) (ss.length + 1) cp2)
               have hr3 := hr2.set 2 (.slice (some ⟨g2, 0, none⟩) (ss.length + 1) cp2)
               have hb2 : Below b w (w2.setCell ⟨b, 2, none⟩ (.slice (some ⟨g2, 0, none⟩) (ss.length + 1) cp2)) := (((Below.refl b w).alloc (by omega) _).grown hgrow2 (by simp; omega) (fun j hj => by have := (hk.o2.lt j hj).1; omega)).setCell (Nat.le_refl _) _)
  obtain ⟨v2', hv2'⟩ : ∃ v, v = Value.slice (some ⟨g2, 0, none⟩) (ss.length + 1) cp2 := ⟨_, rfl⟩
  rw [← hv2'] at hk2 hr3 hb2 ⊢
  clear hv2' hr2 f2 c22 hown2 hgrow2 hat2 hcA hpA c2' f2' hr hs as2 as3
  obtain ⟨w3, hw3⟩ : ∃ w', w' = w2.setCell ⟨b, 2, none⟩ v2' := ⟨_, rfl⟩
  rw [← hw3] at hk2 hr3 hb2 ⊢
  clear hw3
  obtain ⟨g, hgw, hgb, hgs', hg3, hbg⟩ : ∃ g, g < w3.heap.size ∧ g ≠ b ∧ g ≠ gs ∧ ((Value.slice a3 ss.length c3).ownBlock = none ∨ (Value.slice a3 ss.length c3).ownBlock = some g) ∧ b ≤ g := by
    cases h3 : (Value.slice a3 ss.length c3).ownBlock with
    | some g =>
      have h4 := hk2.o3.lt g h3
      refine ⟨g, h4.2, by omega, fun e' => ?_, .inr rfl, by omega⟩
      exact (hk2.a2s (.slice (some ⟨gs, 0, none⟩) l.length cps) (by simp)).2 g h3 (by rw [e']; rfl)
    | none =>
      obtain ⟨q, cq, rfl, h4, h5⟩ := own_form hk2.o2 (by simp)
      refine ⟨q, h5, by omega, fun e' => ?_, .inl rfl, by omega⟩
      exact (hk2.a2s (.slice (some ⟨gs, 0, none⟩) l.length cps) (by simp)).1 q rfl (by rw [e']; rfl)
  have hs3 : w3.ownsRow (b+1) 3 1 (.slice (some ⟨gs, 0, none⟩) l.length cps) l.length (ints l) := hk2.s2 ss.length _ l (by simp) (by rw [hk.hl]; simp)
  have hC3 : ∀ w' : World, But g w3 w' → w'.cell? ⟨b, 3, none⟩ = some (.slice a3 ss.length c3) := fun w' hp => by
    have := (hp.row hr3 (by omega)).cell 3 (by have := HX.out; simp; omega)
    rw [← List.getElem?_eq_getElem, List.getElem?_set_ne (by decide), H3.out] at this
    exact this
  have hCP : ∀ w' : World, But g w3 w' → Calls Tryz.prog 15 #[.slice (some ⟨gs, 0, none⟩) l.length cps] w' fun e w'' => ∃ v', e = .returned v' ∧ IsRowCp g w3.heap.size l v' w'' ∧ Pu w' w'' := fun w' hp => by
    have hg' : w3.grownBy w' (some g) := ⟨hp.os, hp.tape, hp.output, hp.size, fun k hk hne => hp.block k hk (fun e => hne (by rw [e]))⟩
    exact copyCp g w3.heap.size _ l w' (LI.own (hs3.kept hg' (.inr (by simp [Value.ownBlock]; omega))) rfl hl0 HL1.out) hl0 hgw hp.size
  have HC3 := Lib.hid hC3
  have HCP := Lib.hid hCP
  have HK := Lib.hid hk2
  have HR := Lib.hid hr3
  have HHK := Lib.hid hk
  have HG3 := Lib.hid hg3
  have cS : ∀ args w, (callFunc 15 args).run Tryz.prog w = .ok (.enter 15 args) w := fun args w => run_callFunc_body Tryz.func15 (by kernel_rfl) (by kernel_rfl) args w
  clear hC3 hCP hk2 hr3 hs3 hk hg3
  have hb3 : b < w3.heap.size := HR.out.lt
  apply region_writer (g := g) (n := 11) (hn := by kernel_rfl) (hlast := rfl) (hU := by kernel_rfl) (Φ1 := (Is _ :: Is _ :: Is _ :: Is _ :: Is _ :: Is _ :: IsRowCp g w3.heap.size l :: IsRowCpS g w3.heap.size l :: [])) (Φm := IsRowMid b e (ss.length + 1) (xs.set 2 v2') v2' (ss ++ [.slice (some ⟨gs, 0, none⟩) l.length cps]) cs (ls ++ [l]) (ls ++ [l])) (Φ2 := (Is _ :: Is _ :: [])) (hm := by kernel_rfl) (hE := by kernel_rfl) (hD := by kernel_rfl) (hsize := by kernel_rfl)
  case hop =>
    refine ⟨?_, ?_, ?_, ?_, ?_, ?_, ?_, ?_, ?_, ?_, ?_, trivial⟩
    · intro a' w' hs hp he
      have hp : But g _ w' := hp
      have e0 := hs 0 (by kernel_rfl)
      try simp [Is, Region.binds] at he
      exact op_val rfl (wanted_none rfl) (by first | (go_simp; done) | (go_simp; rfl) | (simp [execOp, Act.eval, go_sem, *]; done) | (simp [execOp, Act.eval, go_sem, *]; rfl)) rfl (Pu.refl _)
    · intro a' w' hs hp he
      have hp : But g _ w' := hp
      have e0 := hs 0 (by kernel_rfl)
      try simp [Is, Region.binds] at he
      exact op_val rfl (wanted_none rfl) (by first | (go_simp; done) | (go_simp; rfl) | (simp [execOp, Act.eval, go_sem, *]; done) | (simp [execOp, Act.eval, go_sem, *]; rfl)) rfl (Pu.refl _)
    · intro a' w' hs hp he
      have hp : But g _ w' := hp
      try simp [Is, Region.binds] at he
      exact op_val rfl (wanted_none rfl) (by first | (go_simp; done) | (go_simp; rfl) | (simp [execOp, Act.eval, go_sem, *]; done) | (simp [execOp, Act.eval, go_sem, *]; rfl)) rfl (Pu.refl _)
    · intro a' w' hs hp he
      have hp : But g _ w' := hp
      try simp [Is, Region.binds] at he
      exact op_val rfl (wanted_none rfl) (by first | (go_simp; done) | (go_simp; rfl) | (simp [execOp, Act.eval, go_sem, *]; done) | (simp [execOp, Act.eval, go_sem, *]; rfl)) rfl (Pu.refl _)
    · intro a' w' hs hp he
      have hp : But g _ w' := hp
      try simp [Is, Region.binds] at he
      have hc := HC3.out _ hp; exact op_val rfl (wanted_none rfl) (by first | (go_simp; done) | (go_simp; rfl)) rfl (Pu.refl _)
    · intro a' w' hs hp he
      have hp : But g _ w' := hp
      have e1 := hs 1 (by kernel_rfl)
      try simp [Is, Region.binds] at he
      exact op_val rfl (wanted_none rfl) (by first | (go_simp; done) | (go_simp; rfl) | (simp [execOp, Act.eval, go_sem, *]; done) | (simp [execOp, Act.eval, go_sem, *]; rfl)) rfl (Pu.refl _)
    · intro a' w' hs hp he
      have hp : But g _ w' := hp
      try simp [Is, Region.binds] at he
      exact op_callQ (HCP.out _ hp) rfl (wanted_none rfl) (by first | (go_simp; done) | (go_simp; rfl)) rfl
    · intro a' w' hs hp he
      have hp : But g _ w' := hp
      try simp [Is, Region.binds] at he
      obtain ⟨k, cp, hv, hgB, ho⟩ := he; exact op_val rfl (wanted_none rfl) (by first | (go_simp; done) | (go_simp; rfl)) ⟨_, _, rfl, .slice (some ⟨k, 0, none⟩) l.length cp, Row.new _ #[.slice (some ⟨k, 0, none⟩) l.length cp] _, by have := hp.size; omega, k, cp, rfl, hgB, ho.alloc _⟩ ((Pu.refl _).alloc _)
    · intro a' w' hs hp he
      have hp : Pu _ w' := hp
      try simp [Is, Region.binds] at he
      obtain ⟨h24, ⟨k, cp, hv, c, hrow, hkg, hcp⟩, -⟩ := he; refine op_mid ?a1 b e (xs.set 2 v2') v2' _ (ss ++ [.slice (some ⟨gs, 0, none⟩) l.length cps]) cs (ls ++ [l]) ls l g w3 w' HR.out HK.out hp hgw HG3.out (ss.length) HCL.out hm (by simp [HCL.out]) (.tmp 24) (.tmp 27) ?a2 ?a3 (by simpa [Act.eval] using h24) ⟨k, 0, none⟩ cp (by simpa [Act.eval] using hv) c (cell_row hrow) hcp ?a4; exact rfl; exact rfl; exact rfl; exact rfl
    · intro a' w' hs hp he
      have hp : But g _ w' := hp
      try simp [Is, Region.binds] at he
      exact op_val rfl (wanted_none rfl) (by first | (go_simp; done) | (go_simp; rfl) | (simp [execOp, Act.eval, go_sem, *]; done) | (simp [execOp, Act.eval, go_sem, *]; rfl)) rfl (Pu.refl _)
    · intro a' w' hs hp he
      have hp : But g _ w' := hp
      try simp [Is, Region.binds] at he
      exact op_val rfl (wanted_none rfl) (by first | (go_simp; done) | (go_simp; rfl) | (simp [execOp, Act.eval, go_sem, *]; done) | (simp [execOp, Act.eval, go_sem, *]; rfl)) rfl (Pu.refl _)
  case hend =>
    intro a' w' hdef hsz hs hp hall
    obtain ⟨r0, r1, r2, r3, r4, r5, r6, r7, r8, r9, r10, -⟩ := hall
    obtain ⟨g6, cap6, rv6, row6⟩ := r6
    obtain ⟨g7, cap7, rv7, row7⟩ := r7
    obtain ⟨g8, cap8, rv8, row8⟩ := r8
    have hA := agree_done (agree_step (agree_step (agree_step (agree_step (agree_step (agree_step (agree_step (agree_step (agree_step (agree_step (agree_step (agree_initL [20, 21, 22, 23, 24, 25, 26, 27, 28, 29, 30] hsz hs (by kernel_rfl)) r0) r1) r2) r3) r4) r5) rv6) rv7) rv8) r9) r10)
    have ha := act_of hA hdef
    rw [ha]
    clear ha hA hs hsz hdef r0 r1 r2 r3 r4 r5 r9 r10 rv6 rv7 rv8
    (try simp only [List.setIfInBounds_toArray])
    (try dsimp only [List.set_cons_zero, List.set_cons_succ])
    (try simp only [Exit.then])
    obtain ⟨c8, hr8, hk8⟩ := row8; have f3 := hr8.frozen 3 (by have := HX.out; simp; omega); have hr9 := hr8.set 3 (.slice (some ⟨g8, 0, none⟩) (ss.length + 1) cap8); have hk9 := hk8.store 3 (.slice (some ⟨g8, 0, none⟩) (ss.length + 1) cap8); obtain ⟨u33, c33⟩ : ∃ u, w'.cell? ⟨b, 3, none⟩ = some u := ⟨_, hr8.cell 3 (by have := HX.out; simp; omega)⟩
    refine op_done rfl (wanted_none rfl) (by first | (go_simp; done) | (go_simp; rfl)) ?_
    (try simp only [Exit.inBlock, Exit.then])
    have hb9 : Below b w (w'.setCell ⟨b, 3, none⟩ (.slice (some ⟨g8, 0, none⟩) (ss.length + 1) cap8)) := by
      refine (hb2.trans ⟨hp.os, hp.tape, hp.output, hp.size, fun k hk => hp.block k (by omega) (by omega)⟩).setCell (Nat.le_refl _) _
    go_end0
    have hx := HX.out
    exact ⟨rfl, _, _, _, c8, hr9, (HN.out.set 2 _ (.inl rfl)).set 3 _ (.inr rfl), by rw [List.getElem?_set_ne (by decide), List.getElem?_set_self (by omega)], by rw [List.getElem?_set_self (by simp; omega)], hk9, hb9⟩
end Go.Proofs.YtfpepaeoclmcpaaGreat
