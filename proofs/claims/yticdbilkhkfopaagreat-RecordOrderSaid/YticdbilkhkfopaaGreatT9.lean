/- Package record: the keys of epochs. Worlds that differ in new blocks and in those of a set. Four words mixed: package stream's and the document's. Numbers in bytes, the lowest first: package octet's and the document's. -/
import Derived.Test.YticdbilkhkfopaaGreatT8
set_option linter.unusedSimpArgs false
set_option linter.unusedVariables false
set_option linter.unusedSimpArgs false
set_option linter.unusedVariables false
namespace Go.Esc
open Go Go.RowKit
theorem Row.ne {w : World} {g h : Nat} {e e' : TypeId} {xs ys : List Value} (hg : Row w g e xs) (hh : Row w h e' ys) (hne : e ≠ e') : g ≠ h := by
  rintro rfl
  obtain ⟨c, fr, h1, _⟩ := hg
  obtain ⟨c', fr', h2, _⟩ := hh
  rw [h1] at h2
  cases h2
  exact hne rfl
theorem MapAt.ne {P : Program} {kt : TypeId} {K : Type} {lit : K → Lit} {w : World} {b c g : Nat} {f : K → Option Value} {e : TypeId} {xs : List Value} (h : MapAt P kt lit w b c f) (hr : Row w g e xs) : b ≠ g := by
  rintro rfl
  obtain ⟨D, ⟨es, clock, h1, _⟩, _⟩ := h
  obtain ⟨c', fr', h2, _⟩ := hr
  rw [h1] at h2
  cases h2
theorem MapAt.but {P : Program} {kt : TypeId} {K : Type} {lit : K → Lit} {w w' : World} {b c g : Nat} {f : K → Option Value} (h : MapAt P kt lit w b c f) (hp : But g w w') (hne : b ≠ g) : MapAt P kt lit w' b c f := h.other (hp.block b h.lt hne)
/-- A new block of one cell. -/
def IsPtrN (e : TypeId) (B : Nat) : Value → World → Prop := fun v w => ∃ g, v = .pointer (some ⟨g, 0, none⟩) ∧ (∃ x, Row w g e [x]) ∧ B ≤ g
instance (e : TypeId) (B : Nat) : Stable (IsPtrN e B) := ⟨fun _ _ _ h hp => by obtain ⟨g, hv, ⟨x, hr⟩, hb⟩ := h; exact ⟨g, hv, ⟨x, hr.pu hp⟩, hb⟩⟩
end Go.Esc
namespace Go.Proofs.YticdbilkhkfopaaGreat
open Go.RowKit Go.Esc
set_option maxRecDepth 100000 in
set_option maxHeartbeats 1600000 in
theorem turnSet (pv ev xv tb x : Nat) (key : Bs) (mv : Value) (n : Nat) (w : World) (hk : key.length = 32) (hn : n ≤ 100)
    (h1 : Row w pv 164 [.pointer (some ⟨tb, 0, none⟩)]) (h2 : Row w ev 3 [.int .i64 (n : Int)]) (h3 : Row w xv 215 [.pointer (some ⟨x, 0, none⟩)])
    (h4 : Row w tb 167 [S key, mv]) (h5 : Row w x 217 [.int .u32 0, .int .i32 1, .int .u32 0, S []]) :
    Calls Tryz.prog 164 #[.pointer (some ⟨pv, 0, none⟩), .pointer (some ⟨ev, 0, none⟩), .pointer (some ⟨xv, 0, none⟩)] w fun e w' => e = .returned (.tuple #[]) ∧ Row w' x 217 [.int .u32 0, .int .i32 1, .int .u32 0, S (turnL key n)] ∧ But x w w' := by
  have hA := fun w => ratchetAt key (n : Int) (by omega) (by omega) (by omega) w
  rw [show ((n : Int)).toNat = n from rfl] at hA
  have HA := Lib.hid hA
  have cA : ∀ args w, (callFunc 165 args).run Tryz.prog w = .ok (.enter 165 args) w := fun args w => run_callFunc_body Tryz.func165 (by kernel_rfl) (by kernel_rfl) args w
  clear hA
  go_enter Tryz.func164, Tryz.ntmps164
  have n1 := Row.ne h1 h5 (by decide)
  have n2 := Row.ne h2 h5 (by decide)
  have n3 := Row.ne h3 h5 (by decide)
  have n4 := Row.ne h4 h5 (by decide)
  apply region_chain (g := x) (chain := [12]) (C := (fun s w' => Row w' x 217 [.int .u32 0, .int .i32 1, .int .u32 0, S (if s = 0 then [] else turnL key n)])) (Φs := (Is _ :: Is _ :: Is _ :: Is _ :: Is _ :: Is _ :: Is _ :: Is _ :: Is _ :: Is _ :: Is _ :: Is _ :: Is _ :: [])) (hm := by kernel_rfl) (hE := by kernel_rfl) (hD := by kernel_rfl) (hup := by kernel_rfl) (hch := by kernel_rfl) (hsize := by kernel_rfl)
  case hC =>
    intro s a b h hp
    exact Row.pu h hp
  case hC0 =>
    exact h5
  case hop =>
    refine ⟨?_, ?_, ?_, ?_, ?_, ?_, ?_, ?_, ?_, ?_, ?_, ?_, ?_, trivial⟩
    · intro a' w' s hs hp hC hlo hhi he
      rw [if_neg (by decide)]
      clear hlo hhi
      have e2 := hs 2 (by kernel_rfl)
      try simp [Is, Region.binds] at he
      have hc := (hp.row h3 n3).cell 0 (by simp); simp at hc; exact op_val rfl (wanted_none rfl) (by first | (go_simp; done) | (go_simp; rfl)) rfl (Pu.refl _)
    · intro a' w' s hs hp hC hlo hhi he
      rw [if_neg (by decide)]
      clear hlo hhi
      have e0 := hs 0 (by kernel_rfl)
      try simp [Is, Region.binds] at he
      have hc := (hp.row h1 n1).cell 0 (by simp); simp at hc; exact op_val rfl (wanted_none rfl) (by first | (go_simp; done) | (go_simp; rfl)) rfl (Pu.refl _)
    · intro a' w' s hs hp hC hlo hhi he
      rw [if_neg (by decide)]
      clear hlo hhi
      try simp [Is, Region.binds] at he
      exact op_val rfl (wanted_none rfl) (by first | (go_simp; done) | (go_simp; rfl) | (simp [execOp, Act.eval, go_sem, *]; done) | (simp [execOp, Act.eval, go_sem, *]; rfl)) rfl (Pu.refl _)
    · intro a' w' s hs hp hC hlo hhi he
      rw [if_neg (by decide)]
      clear hlo hhi
      try simp [Is, Region.binds] at he
      exact op_val rfl (wanted_none rfl) (by first | (go_simp; done) | (go_simp; rfl) | (simp [execOp, Act.eval, go_sem, *]; done) | (simp [execOp, Act.eval, go_sem, *]; rfl)) rfl (Pu.refl _)
    · intro a' w' s hs hp hC hlo hhi he
      rw [if_neg (by decide)]
      clear hlo hhi
      try simp [Is, Region.binds] at he
      have hc := (hp.row h4 n4).cell 0 (by simp); simp at hc; exact op_val rfl (wanted_none rfl) (by first | (go_simp; done) | (go_simp; rfl)) rfl (Pu.refl _)
    · intro a' w' s hs hp hC hlo hhi he
      rw [if_neg (by decide)]
      clear hlo hhi
      have e1 := hs 1 (by kernel_rfl)
      try simp [Is, Region.binds] at he
      have hc := (hp.row h2 n2).cell 0 (by simp); simp at hc; exact op_val rfl (wanted_none rfl) (by first | (go_simp; done) | (go_simp; rfl)) rfl (Pu.refl _)
    · intro a' w' s hs hp hC hlo hhi he
      rw [if_neg (by decide)]
      clear hlo hhi
      try simp [Is, Region.binds] at he
      exact op_callP (HA.out _) rfl (wanted_none rfl) (by first | (go_simp; done) | (go_simp; rfl)) (fun _ => rfl)
    · intro a' w' s hs hp hC hlo hhi he
      rw [if_neg (by decide)]
      clear hlo hhi
      try simp [Is, Region.binds] at he
      exact op_val rfl (wanted_none rfl) (by first | (go_simp; done) | (go_simp; rfl) | (simp [execOp, Act.eval, go_sem, *]; done) | (simp [execOp, Act.eval, go_sem, *]; rfl)) rfl (Pu.refl _)
    · intro a' w' s hs hp hC hlo hhi he
      rw [if_neg (by decide)]
      clear hlo hhi
      try simp [Is, Region.binds] at he
      exact op_val rfl (wanted_none rfl) (by first | (go_simp; done) | (go_simp; rfl) | (simp [execOp, Act.eval, go_sem, *]; done) | (simp [execOp, Act.eval, go_sem, *]; rfl)) rfl (Pu.refl _)
    · intro a' w' s hs hp hC hlo hhi he
      rw [if_neg (by decide)]
      clear hlo hhi
      try simp [Is, Region.binds] at he
      exact op_val rfl (wanted_none rfl) (by first | (go_simp; done) | (go_simp; rfl) | (simp [execOp, Act.eval, go_sem, *]; done) | (simp [execOp, Act.eval, go_sem, *]; rfl)) rfl (Pu.refl _)
    · intro a' w' s hs hp hC hlo hhi he
      rw [if_neg (by decide)]
      clear hlo hhi
      try simp [Is, Region.binds] at he
      exact op_val rfl (wanted_none rfl) (by first | (go_simp; done) | (go_simp; rfl) | (simp [execOp, Act.eval, go_sem, *]; done) | (simp [execOp, Act.eval, go_sem, *]; rfl)) rfl (Pu.refl _)
    · intro a' w' s hs hp hC hlo hhi he
      rw [if_neg (by decide)]
      clear hlo hhi
      try simp [Is, Region.binds] at he
      exact op_val rfl (wanted_none rfl) (by first | (go_simp; done) | (go_simp; rfl) | (simp [execOp, Act.eval, go_sem, *]; done) | (simp [execOp, Act.eval, go_sem, *]; rfl)) rfl (Pu.refl _)
    · intro a' w' s hs hp hC hlo hhi he
      rw [if_pos (by decide)]; intro hsc; clear hsc
      have hs0 : s = 0 := Nat.le_antisymm (Nat.le_trans hhi (Nat.le_of_eq (by kernel_rfl))) (Nat.le_trans (Nat.le_of_eq (by kernel_rfl)) hlo)
      subst hs0
      clear hlo hhi
      try simp [Is, Region.binds] at he
      simp at hC; obtain ⟨u3, hc⟩ : ∃ u, w'.cell? ⟨x, 3, none⟩ = some u := ⟨_, hC.cell 3 (by simp)⟩; have hf := hC.frozen 3 (by simp); have h6 := hC.set 3 (S (turnL key n)); exact op_doneC rfl (wanted_none rfl) (by first | (go_simp; done) | (go_simp; rfl)) rfl (by simpa using h6) (But.set _ _ _)
  case hend =>
    intro a' w' hdef hsz hs hp hC hall
    obtain ⟨r0, r1, r2, r3, r4, r5, r6, r7, r8, r9, r10, r11, r12, -⟩ := hall
    have hA := agree_done (agree_step (agree_step (agree_step (agree_step (agree_step (agree_step (agree_step (agree_step (agree_step (agree_step (agree_step (agree_step (agree_init [4, 5, 6, 7, 8, 9, 10, 3, 11, 12, 13, 14] hsz hs (by kernel_rfl)) r0) r1) r2) r3) r4) r5) r6) r7) r8) r9) r10) r11)
    have ha := act_of hA hdef
    rw [ha]
    clear ha hA hs hsz hdef r0 r1 r2 r3 r4 r5 r6 r7 r8 r9 r10 r11 r12 
    (try simp only [List.setIfInBounds_toArray])
    (try dsimp only [List.set_cons_zero, List.set_cons_succ])
    (try simp only [Exit.then])
    simp at hC
    go_end0
    exact ⟨rfl, hC, hp⟩
theorem Pu_drew' (w : World) : Pu w { w with drawn := w.drawn + 1 } := ⟨rfl, rfl, rfl, Nat.le_refl _, fun _ _ => rfl⟩
/-- The keys of epochs: those that are there are made. -/
def Turns (G : Nat → Prop) (w : World) (tb mb : Nat) (key : Bs) (m : Nat) : Prop := ∃ (f : Nat → Option Value) (c : Nat), Row w tb 167 [S key, .map (some mb)] ∧ MapAt Tryz.prog 3 litI w mb c f ∧ c ≤ m ∧
  ∀ e v, f e = some v → ∃ x, v = .pointer (some ⟨x, 0, none⟩) ∧ G x ∧ Row w x 217 [.int .u32 1, .int .i32 0, .int .u32 0, S (turnL key e)]
/-- The blocks of G, and those that are new. -/
def Gw (G : Nat → Prop) (w w' : World) : Nat → Prop := fun g => G g ∨ (w.heap.size ≤ g ∧ g < w'.heap.size)
theorem zeroTurn (w : World) : (zeroValue 215).run Tryz.prog w = .ok (.pointer none) w := by kernel_rfl
theorem Turns.pu {G : Nat → Prop} {w w' : World} {tb mb : Nat} {key : Bs} {m : Nat} (h : Turns G w tb mb key m) (hp : Pu w w') : Turns G w' tb mb key m := by
  obtain ⟨f, c, h1, h2, h3, h4⟩ := h
  refine ⟨f, c, h1.pu hp, h2.pu hp, h3, fun e v he => ?_⟩
  obtain ⟨x, hx, hg, hr⟩ := h4 e v he
  exact ⟨x, hx, hg, hr.pu hp⟩
set_option maxRecDepth 100000 in
set_option maxHeartbeats 1600000 in
theorem turnsAt (G : Nat → Prop) (tb mb : Nat) (key : Bs) (m s : Nat) (w : World) (h : Turns G w tb mb key m) (hk : key.length = 32) (hs : s < 800) (hm : m ≤ 100000) :
    Calls Tryz.prog 95 #[.pointer (some ⟨tb, 0, none⟩), .int .i64 (s : Int)] w fun e w' => e = .returned (S (turnL key (s / 8))) ∧ Turns (Gw G w w') w' tb mb key (m+1) ∧ But mb w w' := by
  obtain ⟨f, c, h1, h2, h3, h4⟩ := h
  have hE := fun w => epoch (s : Int) (by omega) w
  rw [if_neg (by omega), show (s : Int) / 8 = ((s / 8 : Nat) : Int) by omega] at hE
  obtain ⟨e, he⟩ : ∃ e, e = s / 8 := ⟨_, rfl⟩
  rw [← he] at hE ⊢
  have he1 : e ≤ 100 := by omega
  have HE := Lib.hid hE
  clear hE he hs
  have hkI := keyI (P := Tryz.prog) (kt := 3) Tryz.underlying3
  have hS2 : ∀ w2 : World, Pu w w2 → MapAt Tryz.prog 3 litI w2 mb c f := fun w2 hp => h2.pu hp
  have hlk : ∀ w2 : World, Pu w w2 → (Instr.lookup 165 (.map (some mb)) (.int .i64 (e : Int)) false).run Tryz.prog w2 = .ok ((f e).getD (.pointer none)) w2 := fun w2 hp => (h2.pu hp).get hkI Tryz.underlying165 (zeroTurn w2) e (by omega)
  have hp1 : Pu w ((w.alloc (.cells #[.pointer (some ⟨tb, 0, none⟩)] 164)).alloc (.cells #[.int .i64 (e : Int)] 3)) := ((Pu.refl w).alloc _).trans ((Pu.refl _).alloc _)
  have hpv : Row ((w.alloc (.cells #[.pointer (some ⟨tb, 0, none⟩)] 164)).alloc (.cells #[.int .i64 (e : Int)] 3)) w.heap.size 164 [.pointer (some ⟨tb, 0, none⟩)] := (Row.new _ _ _).alloc _
  have hev : Row ((w.alloc (.cells #[.pointer (some ⟨tb, 0, none⟩)] 164)).alloc (.cells #[.int .i64 (e : Int)] 3)) (w.heap.size + 1) 3 [.int .i64 (e : Int)] := by
    have := Row.new (w.alloc (.cells #[.pointer (some ⟨tb, 0, none⟩)] 164)) #[.int .i64 (e : Int)] 3
    simpa using this
  have H2 := Lib.hid h2
  have HLK := Lib.hid hlk
  have H4 := Lib.hid h4
  clear hlk h4 hS2
  have hc1000 : c < maxLen := by unfold maxLen; omega
  cases hfe : f e with
  | some v =>
    obtain ⟨x, rfl, -, hx⟩ := H4.out e v hfe
    go_enter Tryz.func95, Tryz.ntmps95
    go_wp2_with (go_at_call 163; refine (HE.out _).mono ?_; rintro e1 w1 ⟨rfl, rfl⟩)
    obtain ⟨w1, hw1⟩ : ∃ w1, w1 = (w.alloc (.cells #[.pointer (some ⟨tb, 0, none⟩)] 164)).alloc (.cells #[.int .i64 (e : Int)] 3) := ⟨_, rfl⟩
    rw [← hw1] at hp1 hpv hev ⊢
    clear hw1
    have ht1 := h1.pu hp1
    apply region_last (n := 7) (hn := by kernel_rfl) (hlast := rfl) (hU := by kernel_rfl) (Φs := (Is _ :: Is _ :: Is _ :: Is _ :: Is _ :: Is (.pointer (some ⟨x, 0, none⟩)) :: IsPtrN 215 w1.heap.size :: [])) (hm := by kernel_rfl) (hE := by kernel_rfl) (hD := by kernel_rfl) (hsize := by kernel_rfl)
    case hop =>
      refine ⟨?_, ?_, ?_, ?_, ?_, ?_, ?_, trivial⟩
      · intro a' w' hs hp he
        have e2 := hs 2 (by kernel_rfl)
        try simp [Is, Region.binds] at he
        have hc := (hpv.pu hp).cell 0 (by simp); simp at hc; exact op_val rfl (wanted_none rfl) (by first | (go_simp; done) | (go_simp; rfl)) rfl (Pu.refl _)
      · intro a' w' hs hp he
        try simp [Is, Region.binds] at he
        exact op_val rfl (wanted_none rfl) (by first | (go_simp; done) | (go_simp; rfl) | (simp [execOp, Act.eval, go_sem, *]; done) | (simp [execOp, Act.eval, go_sem, *]; rfl)) rfl (Pu.refl _)
      · intro a' w' hs hp he
        try simp [Is, Region.binds] at he
        exact op_val rfl (wanted_none rfl) (by first | (go_simp; done) | (go_simp; rfl) | (simp [execOp, Act.eval, go_sem, *]; done) | (simp [execOp, Act.eval, go_sem, *]; rfl)) rfl (Pu.refl _)
      · intro a' w' hs hp he
        try simp [Is, Region.binds] at he
        have hc := (ht1.pu hp).cell 1 (by simp); simp at hc; exact op_val rfl (wanted_none rfl) (by first | (go_simp; done) | (go_simp; rfl)) rfl (Pu.refl _)
      · intro a' w' hs hp he
        have e5 := hs 5 (by kernel_rfl)
        try simp [Is, Region.binds] at he
        have hc := (hev.pu hp).cell 0 (by simp); simp at hc; exact op_val rfl (wanted_none rfl) (by first | (go_simp; done) | (go_simp; rfl)) rfl (Pu.refl _)
      · intro a' w' hs hp he
        try simp [Is, Region.binds] at he
        have hlk := HLK.out _ (hp1.trans hp); rw [hfe, Option.getD_some] at hlk; exact op_val rfl (wanted_none rfl) (by first | (go_simp; done) | (go_simp; rfl)) rfl (Pu.refl _)
      · intro a' w' hs hp he
        try simp [Is, Region.binds] at he
        refine op_val rfl (wanted_none rfl) (by go_simp; exact ⟨rfl, rfl⟩) ?_ ((Pu.refl _).alloc _); exact ⟨_, rfl, ⟨_, Row.newAt _ _ _ _ rfl rfl⟩, hp.size⟩
    case hend =>
      intro a' w' hdef hsz hs hp hall
      obtain ⟨r0, r1, r2, r3, r4, r5, r6, -⟩ := hall
      obtain ⟨g6, rv6, row6⟩ := r6
      have hA := agree_done (agree_step (agree_step (agree_step (agree_step (agree_step (agree_step (agree_step (agree_init [9, 10, 11, 12, 13, 14, 6] hsz hs (by kernel_rfl)) r0) r1) r2) r3) r4) r5) rv6)
      have ha := act_of hA hdef
      rw [ha]
      clear ha hA hs hsz hdef r0 r1 r2 r3 r4 r5 rv6
      (try simp only [List.setIfInBounds_toArray])
      (try dsimp only [List.set_cons_zero, List.set_cons_succ])
      (try simp only [Exit.then])
      obtain ⟨⟨x0, hr0⟩, hg6⟩ := row6; have hc := hr0.cell 0 (by simp); have hf := hr0.frozen 0 (by simp); simp at hc; have hr6 := hr0.set 0 (.pointer (some ⟨x, 0, none⟩)); simp at hr6
      refine op_done rfl (wanted_none rfl) (by first | (go_simp; done) | (go_simp; rfl)) ?_
      (try simp only [Exit.inBlock, Exit.then])
      obtain ⟨w2, hw2⟩ : ∃ w2, w2 = w'.setCell ⟨g6, 0, none⟩ (.pointer (some ⟨x, 0, none⟩)) := ⟨_, rfl⟩
      have hp2 : Pu w w2 := by rw [hw2]; exact (hp1.trans hp).setCell (Nat.le_trans hp1.size hg6) _
      rw [← hw2] at hr6 ⊢
      have c6 := hr6.cell 0 (by simp)
      have hx2 := hx.pu hp2
      have d0 := hx2.cell 0 (by simp)
      have d3 := hx2.cell 3 (by simp)
      simp at c6 d0 d3
      clear hw2 hp hc hf hr0 hpv hev ht1 hx
      go_wp2_with (go_at_call 155; refine (once_again x 0 _ w2 d0).mono ?_; rintro e2 w3 ⟨rfl, rfl⟩)
      go_ret
      refine ⟨rfl, ⟨f, c, h1.pu hp2, H2.out.pu hp2, by omega, fun e' v' he' => ?_⟩, But.pu hp2⟩
      obtain ⟨y, hy, hgy, hry⟩ := H4.out e' v' he'
      exact ⟨y, hy, .inl hgy, hry.pu hp2⟩
  | none =>
    go_enter Tryz.func95, Tryz.ntmps95
    go_wp2_with (go_at_call 163; refine (HE.out _).mono ?_; rintro e1 w1 ⟨rfl, rfl⟩)
    obtain ⟨w1, hw1⟩ : ∃ w1, w1 = (w.alloc (.cells #[.pointer (some ⟨tb, 0, none⟩)] 164)).alloc (.cells #[.int .i64 (e : Int)] 3) := ⟨_, rfl⟩
    rw [← hw1] at hp1 hpv hev ⊢
    clear hw1
    have ht1 := h1.pu hp1
    apply region_last (n := 7) (hn := by kernel_rfl) (hlast := rfl) (hU := by kernel_rfl) (Φs := (Is _ :: Is _ :: Is _ :: Is _ :: Is _ :: Is (.pointer none) :: IsPtrN 215 w1.heap.size :: [])) (hm := by kernel_rfl) (hE := by kernel_rfl) (hD := by kernel_rfl) (hsize := by kernel_rfl)
    case hop =>
      refine ⟨?_, ?_, ?_, ?_, ?_, ?_, ?_, trivial⟩
      · intro a' w' hs hp he
        have e2 := hs 2 (by kernel_rfl)
        try simp [Is, Region.binds] at he
        have hc := (hpv.pu hp).cell 0 (by simp); simp at hc; exact op_val rfl (wanted_none rfl) (by first | (go_simp; done) | (go_simp; rfl)) rfl (Pu.refl _)
      · intro a' w' hs hp he
        try simp [Is, Region.binds] at he
        exact op_val rfl (wanted_none rfl) (by first | (go_simp; done) | (go_simp; rfl) | (simp [execOp, Act.eval, go_sem, *]; done) | (simp [execOp, Act.eval, go_sem, *]; rfl)) rfl (Pu.refl _)
      · intro a' w' hs hp he
        try simp [Is, Region.binds] at he
        exact op_val rfl (wanted_none rfl) (by first | (go_simp; done) | (go_simp; rfl) | (simp [execOp, Act.eval, go_sem, *]; done) | (simp [execOp, Act.eval, go_sem, *]; rfl)) rfl (Pu.refl _)
      · intro a' w' hs hp he
        try simp [Is, Region.binds] at he
        have hc := (ht1.pu hp).cell 1 (by simp); simp at hc; exact op_val rfl (wanted_none rfl) (by first | (go_simp; done) | (go_simp; rfl)) rfl (Pu.refl _)
      · intro a' w' hs hp he
        have e5 := hs 5 (by kernel_rfl)
        try simp [Is, Region.binds] at he
        have hc := (hev.pu hp).cell 0 (by simp); simp at hc; exact op_val rfl (wanted_none rfl) (by first | (go_simp; done) | (go_simp; rfl)) rfl (Pu.refl _)
      · intro a' w' hs hp he
        try simp [Is, Region.binds] at he
        have hlk := HLK.out _ (hp1.trans hp); rw [hfe, Option.getD_none] at hlk; exact op_val rfl (wanted_none rfl) (by first | (go_simp; done) | (go_simp; rfl)) rfl (Pu.refl _)
      · intro a' w' hs hp he
        try simp [Is, Region.binds] at he
        refine op_val rfl (wanted_none rfl) (by go_simp; exact ⟨rfl, rfl⟩) ?_ ((Pu.refl _).alloc _); exact ⟨_, rfl, ⟨_, Row.newAt _ _ _ _ rfl rfl⟩, hp.size⟩
    case hend =>
      intro a' w' hdef hsz hs hp hall
      obtain ⟨r0, r1, r2, r3, r4, r5, r6, -⟩ := hall
      obtain ⟨g6, rv6, row6⟩ := r6
      have hA := agree_done (agree_step (agree_step (agree_step (agree_step (agree_step (agree_step (agree_step (agree_init [9, 10, 11, 12, 13, 14, 6] hsz hs (by kernel_rfl)) r0) r1) r2) r3) r4) r5) rv6)
      have ha := act_of hA hdef
      rw [ha]
      clear ha hA hs hsz hdef r0 r1 r2 r3 r4 r5 rv6
      (try simp only [List.setIfInBounds_toArray])
      (try dsimp only [List.set_cons_zero, List.set_cons_succ])
      (try simp only [Exit.then])
      obtain ⟨⟨x0, hr0⟩, hg6⟩ := row6; have hc := hr0.cell 0 (by simp); have hf := hr0.frozen 0 (by simp); simp at hc; have hr6 := hr0.set 0 (.pointer none); simp at hr6
      refine op_done rfl (wanted_none rfl) (by first | (go_simp; done) | (go_simp; rfl)) ?_
      (try simp only [Exit.inBlock, Exit.then])
      obtain ⟨w2, hw2⟩ : ∃ w2, w2 = w'.setCell ⟨g6, 0, none⟩ (.pointer none) := ⟨_, rfl⟩
      have hp12 : Pu w1 w2 := by rw [hw2]; exact hp.setCell hg6 _
      have hp2 : Pu w w2 := hp1.trans hp12
      have hpv2 := hpv.pu hp12
      have hev2 := hev.pu hp12
      have hg6' : w.heap.size ≤ g6 := Nat.le_trans hp1.size hg6
      rw [← hw2] at hr6 ⊢
      have c6 := hr6.cell 0 (by simp)
      have f6 := (hr6.alloc (.cells #[.int .u32 0, .int .i32 0, .int .u32 0, .string ⟨#[]⟩] 217)).frozen 0 (by simp)
      have c66 := (hr6.alloc (.cells #[.int .u32 0, .int .i32 0, .int .u32 0, .string ⟨#[]⟩] 217)).cell 0 (by simp)
      simp at c6 c66
      clear hw2 hp hc hf hr0 hpv hev ht1 hp12
      go_wp2_with fail
      obtain ⟨x, hxx⟩ : ∃ x, x = w2.heap.size := ⟨_, rfl⟩
      have hrx : Row (w2.alloc (.cells #[.int .u32 0, .int .i32 0, .int .u32 0, .string ⟨#[]⟩] 217)) x 217 [.int .u32 0, .int .i32 0, .int .u32 0, S []] := by rw [hxx]; exact Row.new _ _ _
      have hr6' := (hr6.alloc (.cells #[.int .u32 0, .int .i32 0, .int .u32 0, .string ⟨#[]⟩] 217)).set 0 (.pointer (some ⟨x, 0, none⟩))
      have hrx' := hrx.setOther ⟨g6, 0, none⟩ (.pointer (some ⟨x, 0, none⟩)) (by have := hr6.lt; rw [hxx]; simp; omega)
      rw [← hxx]
      obtain ⟨w3, hw3⟩ : ∃ w3, w3 = (w2.alloc (.cells #[.int .u32 0, .int .i32 0, .int .u32 0, .string ⟨#[]⟩] 217)).setCell ⟨g6, 0, none⟩ (.pointer (some ⟨x, 0, none⟩)) := ⟨_, rfl⟩
      rw [← hw3] at hr6' hrx' ⊢
      have hx2 : w.heap.size ≤ x := by rw [hxx]; exact hp2.size
      have hp3 : Pu w w3 := by rw [hw3]; exact (hp2.trans ((Pu.refl w2).alloc _)).setCell hg6' _
      have hg23 : w2.grownBy w3 (some g6) := by
        rw [hw3]
        exact ⟨rfl, rfl, rfl, by simp, fun k hk hne => (Below.heap_setCell _ _ _ _ (fun e => hne (by rw [e]))).trans (Below.heap_alloc _ _ _ hk)⟩
      have hpv3 := hpv2.grown hg23 (by have := Row.ne hpv2 hr6 (by decide); simp; omega)
      have hev3 := hev2.grown hg23 (by have := Row.ne hev2 hr6 (by decide); simp; omega)
      simp at hr6'
      clear c6 f6 c66 hr6 hpv2 hev2 hrx hw3 hg23 hg6 hp1 x0
      have ht3 := h1.pu hp3
      have hm3 := H2.out.pu hp3
      clear hp2 hxx
      apply region_last (n := 6) (hn := by kernel_rfl) (hlast := rfl) (hU := by kernel_rfl) (Φs := (Is _ :: Is _ :: Is _ :: Is _ :: Is _ :: Is _ :: [])) (hm := by kernel_rfl) (hE := by kernel_rfl) (hD := by kernel_rfl) (hsize := by kernel_rfl)
      case hop =>
        refine ⟨?_, ?_, ?_, ?_, ?_, ?_, trivial⟩
        · intro a' w' hs hp he
          have e2 := hs 2 (by kernel_rfl)
          try simp [Is, Region.binds] at he
          have hc := (hpv3.pu hp).cell 0 (by simp); simp at hc; exact op_val rfl (wanted_none rfl) (by first | (go_simp; done) | (go_simp; rfl)) rfl (Pu.refl _)
        · intro a' w' hs hp he
          try simp [Is, Region.binds] at he
          exact op_val rfl (wanted_none rfl) (by first | (go_simp; done) | (go_simp; rfl) | (simp [execOp, Act.eval, go_sem, *]; done) | (simp [execOp, Act.eval, go_sem, *]; rfl)) rfl (Pu.refl _)
        · intro a' w' hs hp he
          try simp [Is, Region.binds] at he
          exact op_val rfl (wanted_none rfl) (by first | (go_simp; done) | (go_simp; rfl) | (simp [execOp, Act.eval, go_sem, *]; done) | (simp [execOp, Act.eval, go_sem, *]; rfl)) rfl (Pu.refl _)
        · intro a' w' hs hp he
          try simp [Is, Region.binds] at he
          have hc := (ht3.pu hp).cell 1 (by simp); simp at hc; exact op_val rfl (wanted_none rfl) (by first | (go_simp; done) | (go_simp; rfl)) rfl (Pu.refl _)
        · intro a' w' hs hp he
          have e5 := hs 5 (by kernel_rfl)
          try simp [Is, Region.binds] at he
          have hc := (hev3.pu hp).cell 0 (by simp); simp at hc; exact op_val rfl (wanted_none rfl) (by first | (go_simp; done) | (go_simp; rfl)) rfl (Pu.refl _)
        · intro a' w' hs hp he
          have e6 := hs 6 (by kernel_rfl)
          try simp [Is, Region.binds] at he
          have hc := (hr6'.pu hp).cell 0 (by simp); simp at hc; exact op_val rfl (wanted_none rfl) (by first | (go_simp; done) | (go_simp; rfl)) rfl (Pu.refl _)
      case hend =>
        intro a' w' hdef hsz hs hp hall
        obtain ⟨r0, r1, r2, r3, r4, r5, -⟩ := hall
        have hA := agree_done (agree_step (agree_step (agree_step (agree_step (agree_step (agree_step (agree_init [19, 20, 21, 22, 23, 24] hsz hs (by kernel_rfl)) r0) r1) r2) r3) r4) r5)
        have ha := act_of hA hdef
        rw [ha]
        clear ha hA hs hsz hdef r0 r1 r2 r3 r4 r5 
        (try simp only [List.setIfInBounds_toArray])
        (try dsimp only [List.set_cons_zero, List.set_cons_succ])
        (try simp only [Exit.then])
        obtain ⟨w5, hrun, hm5, hg5⟩ := (hm3.pu hp).set hkI Tryz.underlying165 hc1000 e (by omega) (.pointer (some ⟨x, 0, none⟩)); rw [hfe] at hm5; simp at hm5; change (Instr.mapUpdate 165 (.map (some mb)) (.int .i64 (e : Int)) (.pointer (some ⟨x, 0, none⟩))).run Tryz.prog w' = .ok () w5 at hrun
        refine op_done rfl (wanted_none rfl) (by first | (go_simp; done) | (go_simp; rfl)) ?_
        (try simp only [Exit.inBlock, Exit.then])
        have hp4 : Pu w w' := hp3.trans hp
        have nx : mb ≠ x := (hm3.pu hp).ne (hrx'.pu hp)
        have hb5 : But mb w w5 := (But.pu hp4).trans ⟨hg5.os, hg5.tape, hg5.output, hg5.size, fun k hk hne => hg5.block k hk (by simpa using hne)⟩
        have hpv5 := (hpv3.pu hp).grown hg5 (by have := (hm3.pu hp).ne (hpv3.pu hp); simp; omega)
        have hev5 := (hev3.pu hp).grown hg5 (by have := (hm3.pu hp).ne (hev3.pu hp); simp; omega)
        have hr65 := (hr6'.pu hp).grown hg5 (by have := (hm3.pu hp).ne (hr6'.pu hp); simp; omega)
        have hrx5 := (hrx'.pu hp).grown hg5 (by simp; omega)
        have ht5 := (ht3.pu hp).grown hg5 (by have := (hm3.pu hp).ne (ht3.pu hp); simp; omega)
        clear hpv3 hev3 hr6' hrx' ht3 hm3 hp hrun hg5 hp3 hp4
        have n1 := Row.ne hpv5 hrx5 (by decide)
        have n2 := Row.ne hev5 hrx5 (by decide)
        have n3 := Row.ne hr65 hrx5 (by decide)
        have n4 := Row.ne ht5 hrx5 (by decide)
        have hset := turnSet w.heap.size (w.heap.size + 1) g6 tb x key (.map (some mb)) e (w5.setCell ⟨x, 1, none⟩ (.int .i32 1)) hk he1 (hpv5.setOther _ _ n1) (hev5.setOther _ _ n2) (hr65.setOther _ _ n3) (ht5.setOther _ _ n4) (hrx5.set 1 _)
        have hrun : ∀ (w1 : World), (callFunc 164 #[.pointer (some ⟨w.heap.size, 0, none⟩), .pointer (some ⟨w.heap.size + 1, 0, none⟩), .pointer (some ⟨g6, 0, none⟩)]).run Tryz.prog w1 = .ok (.enter 164 #[.pointer (some ⟨w.heap.size, 0, none⟩), .pointer (some ⟨w.heap.size + 1, 0, none⟩), .pointer (some ⟨g6, 0, none⟩)]) w1 := fun w1 => run_callFunc_body Tryz.func164 (by kernel_rfl) (by kernel_rfl) _ w1
        have hdo := once_first x 0 164 #[.pointer (some ⟨w.heap.size, 0, none⟩), .pointer (some ⟨w.heap.size + 1, 0, none⟩), .pointer (some ⟨g6, 0, none⟩)] w5 (fun w6 => Row w6 x 217 [.int .u32 0, .int .i32 1, .int .u32 0, S (turnL key e)] ∧ But x w5 w6) hrun (hrx5.cell 0 (by simp)) (hrx5.cell 1 (by simp)) (hrx5.frozen 1 (by simp)) (hset.mono (by
          rintro e2 w6 ⟨rfl, hr, hb⟩
          exact ⟨rfl, ⟨hr, (But.set _ _ _).trans hb⟩, hr.cell 0 (by simp), hr.frozen 0 (by simp), hr.cell 1 (by simp), hr.frozen 1 (by simp)⟩))
        have hd2 := hdo.mono (R' := fun e2 w7 => e2 = .returned (.tuple #[]) ∧ Row w7 x 217 [.int .u32 1, .int .i32 0, .int .u32 0, S (turnL key e)] ∧ But x w5 w7) (by
          rintro e2 w7 ⟨rfl, w6, ⟨hr, hb⟩, rfl⟩
          exact ⟨rfl, (hr.drew.set 0 _).set 1 _, ((hb.trans (But.pu (Pu_drew' w6))).trans (But.set _ _ _)).trans (But.set _ _ _)⟩)
        have HD := Lib.hid hd2
        have c65 := hr65.cell 0 (by simp)
        simp at c65
        have HR65 := Lib.hid hr65
        clear hd2 hdo hset hpv5 hev5 hr65 hrun
        go_wp2_with (go_at_call 155; refine HD.out.mono ?_; rintro e2 w7 ⟨rfl, hr7, hb7⟩; have c67 := (hb7.row HR65.out n3).cell 0 (by simp); have c73 := hr7.cell 3 (by simp); simp at c67 c73)
        go_ret
        have hbw : But mb w w7 := ⟨hb7.os.trans hb5.os, hb7.tape.trans hb5.tape, hb7.output.trans hb5.output, Nat.le_trans hb5.size hb7.size, fun k hk hne => (hb7.block k (Nat.lt_of_lt_of_le hk hb5.size) (by omega)).trans (hb5.block k hk hne)⟩
        refine ⟨rfl, ⟨_, c + 1, hbw.row h1 (by have := h2.ne h1; omega), hm5.but hb7 nx, by omega, fun e' v' he' => ?_⟩, hbw⟩
        unfold upd at he'
        by_cases hee : e' = e
        · rw [if_pos hee] at he'
          cases he'
          rw [hee]
          exact ⟨x, rfl, .inr ⟨hx2, hr7.lt⟩, hr7⟩
        · rw [if_neg hee] at he'
          obtain ⟨y, hy, hgy, hry⟩ := H4.out e' v' he'
          exact ⟨y, hy, .inl hgy, hbw.row hry (by have := h2.ne hry; omega)⟩
end Go.Proofs.YticdbilkhkfopaaGreat
namespace Go.Proofs.YticdbilkhkfopaaGreat
open Go.RowKit Go.Esc
/-- w' is w but for new blocks and those of G. -/
structure Cg (G : Nat → Prop) (w w' : World) : Prop where
  os : w'.os = w.os
  tape : w'.tape = w.tape
  output : w'.output = w.output
  size : w.heap.size ≤ w'.heap.size
  block : ∀ k, k < w.heap.size → ¬ G k → w'.heap[k]? = w.heap[k]?
theorem Cg.refl (G : Nat → Prop) (w : World) : Cg G w w := ⟨rfl, rfl, rfl, Nat.le_refl _, fun _ _ _ => rfl⟩
theorem Cg.pu {G : Nat → Prop} {a b c : World} (h : Cg G a b) (hp : Pu b c) : Cg G a c := ⟨hp.os.trans h.os, hp.tape.trans h.tape, hp.output.trans h.output, Nat.le_trans h.size hp.size, fun i hi hg => (hp.block i (Nat.lt_of_lt_of_le hi h.size)).trans (h.block i hi hg)⟩
theorem Cg.grown {G : Nat → Prop} {a b c : World} {g : Nat} (h : Cg G a b) (hp : b.grownBy c (some g)) (hg : G g) : Cg G a c := ⟨hp.os.trans h.os, hp.tape.trans h.tape, hp.output.trans h.output, Nat.le_trans h.size hp.size, fun i hi hn => (hp.block i (Nat.lt_of_lt_of_le hi h.size) (fun e => hn (by cases e; exact hg))).trans (h.block i hi hn)⟩
theorem Cg.cell {G : Nat → Prop} {a b : World} (h : Cg G a b) {g j : Nat} (hg : g < a.heap.size) (hn : ¬ G g) : b.cell? ⟨g, j, none⟩ = a.cell? ⟨g, j, none⟩ := by
  have := h.block g hg hn
  simp only [World.cell?, this]
theorem Cg.grown' {G : Nat → Prop} {a b c : World} {row : Option Nat} (h : Cg G a b) (hp : b.grownBy c row) (hg : ∀ q, row = some q → G q ∨ a.heap.size ≤ q) : Cg G a c :=
  ⟨hp.os.trans h.os, hp.tape.trans h.tape, hp.output.trans h.output, Nat.le_trans h.size hp.size, fun j hj hn => (hp.block j (Nat.lt_of_lt_of_le hj h.size) (fun e => by
    rcases hg j e.symm with h1 | h1
    · exact hn h1
    · omega)).trans (h.block j hj hn)⟩
theorem Cg.row {G : Nat → Prop} {w w' : World} (h : Cg G w w') {k : Nat} {e : TypeId} {xs : List Value} (hr : Row w k e xs) (hk : ¬ G k) : Row w' k e xs := hr.other (h.block k hr.lt hk)
theorem Cg.below {G : Nat → Prop} {B : Nat} {a w w' : World} (h : Below B a w) (k : Cg G w w') (hg : ∀ g, G g → B ≤ g) (hB : B ≤ w.heap.size) : Below B a w' :=
  h.trans ⟨k.os, k.tape, k.output, k.size, fun i hi => k.block i (by omega) (fun hG => by have := hg i hG; omega)⟩
theorem Cg.trans {G : Nat → Prop} {a b c : World} (h : Cg G a b) (k : Cg G b c) : Cg G a c :=
  ⟨k.os.trans h.os, k.tape.trans h.tape, k.output.trans h.output, Nat.le_trans h.size k.size, fun i hi hg => (k.block i (Nat.lt_of_lt_of_le hi h.size) hg).trans (h.block i hi hg)⟩
/-- The second step may change blocks that are new since the first. -/
theorem Cg.andThen {G H : Nat → Prop} {a b c : World} (h : Cg G a b) (k : Cg H b c) (hH : ∀ g, H g → G g ∨ a.heap.size ≤ g) : Cg G a c :=
  ⟨k.os.trans h.os, k.tape.trans h.tape, k.output.trans h.output, Nat.le_trans h.size k.size, fun i hi hg => (k.block i (Nat.lt_of_lt_of_le hi h.size) (fun hk => by
    rcases hH i hk with h1 | h1
    · exact hg h1
    · omega)).trans (h.block i hi hg)⟩
theorem Cg.mono {G H : Nat → Prop} {a b : World} (h : Cg G a b) (hG : ∀ g, G g → H g) : Cg H a b := ⟨h.os, h.tape, h.output, h.size, fun i hi hn => h.block i hi fun hg => hn (hG i hg)⟩
theorem Cg.ofPu {G : Nat → Prop} {a b : World} (h : Pu a b) : Cg G a b := ⟨h.os, h.tape, h.output, h.size, fun i hi _ => h.block i hi⟩
theorem Cg.ofBut {G : Nat → Prop} {a b : World} {g : Nat} (h : But g a b) (hg : G g) : Cg G a b := ⟨h.os, h.tape, h.output, h.size, fun i hi hn => h.block i hi (fun e => hn (e ▸ hg))⟩
theorem Cg.toPu {G : Nat → Prop} {a b : World} (h : Cg G a b) (hG : ∀ g, G g → a.heap.size ≤ g) : Pu a b := ⟨h.os, h.tape, h.output, h.size, fun i hi => h.block i hi (fun hg => by have := hG i hg; omega)⟩
end Go.Proofs.YticdbilkhkfopaaGreat
set_option linter.unusedSimpArgs false
set_option linter.unusedVariables false
namespace Go.Proofs.YticdbilkhkfopaaGreat
open Go.RowKit Go.Esc
def qv (q : Q4) : Value := .tuple #[V q.a, V q.b, V q.c, V q.d]
theorem leftK (x : BitVec 32) (n : Nat) (h : n < 32) (w : World) :
    Calls Tryz.prog 258 #[V x, .int .i64 (n : Int)] w fun e w' => e = .returned (V (rotl x n)) ∧ w' = w := by
  have e : ((n : Int) % 32).toNat = n := by omega
  have hl := left x (n : Int) (by omega) (by omega) w
  rw [e] at hl; exact hl
set_option maxRecDepth 100000 in
set_option maxHeartbeats 800000 in
theorem quart (a b c d : BitVec 32) (w : World) :
    Calls Tryz.prog 239 #[V a, V b, V c, V d] w fun e w' => e = .returned (qv (quarter a b c d)) ∧ w' = w := by
  have h16 : ∀ (x : BitVec 32) (w : World), Calls Tryz.prog 258 #[V x, .int .i64 16] w fun e w' => e = .returned (V (rotl x 16)) ∧ w' = w := fun x w => leftK x 16 (by decide) w
  have h12 : ∀ (x : BitVec 32) (w : World), Calls Tryz.prog 258 #[V x, .int .i64 12] w fun e w' => e = .returned (V (rotl x 12)) ∧ w' = w := fun x w => leftK x 12 (by decide) w
  have h8 : ∀ (x : BitVec 32) (w : World), Calls Tryz.prog 258 #[V x, .int .i64 8] w fun e w' => e = .returned (V (rotl x 8)) ∧ w' = w := fun x w => leftK x 8 (by decide) w
  have h7 : ∀ (x : BitVec 32) (w : World), Calls Tryz.prog 258 #[V x, .int .i64 7] w fun e w' => e = .returned (V (rotl x 7)) ∧ w' = w := fun x w => leftK x 7 (by decide) w
  have H16 := Lib.hid h16
  have H12 := Lib.hid h12
  have H8 := Lib.hid h8
  have H7 := Lib.hid h7
  clear h16 h12 h8 h7
  go_enter Tryz.func239, Tryz.ntmps239
  go_wp2_with (go_at_call 258; first
    | (with_reducible refine (H16.out _ _).mono ?_
       rintro e w1 ⟨rfl, rfl⟩)
    | (with_reducible refine (H12.out _ _).mono ?_
       rintro e w1 ⟨rfl, rfl⟩)
    | (with_reducible refine (H8.out _ _).mono ?_
       rintro e w1 ⟨rfl, rfl⟩)
    | (with_reducible refine (H7.out _ _).mono ?_
       rintro e w1 ⟨rfl, rfl⟩))
  refine bodyPost_ret (v := qv (quarter a b c d)) (by simp [results, Tryz.results239, go_sem]; rfl) rfl ⟨rfl, rfl⟩
theorem refLeftK (x : BitVec 32) (n : Nat) (h : n < 32) (w : World) :
    Calls Tryz.prog 148 #[V x, .int .i64 (n : Int)] w fun e w' => e = .returned (V (rotl x n)) ∧ w' = w := by
  have e : ((n : Int) % 32).toNat = n := by omega
  have hl := refLeft x (n : Int) (by omega) (by omega) w
  rw [e] at hl; exact hl
set_option maxRecDepth 100000 in
set_option maxHeartbeats 800000 in
theorem refQuart (a b c d : BitVec 32) (w : World) :
    Calls Tryz.prog 219 #[V a, V b, V c, V d] w fun e w' => e = .returned (qv (quarter a b c d)) ∧ w' = w := by
  have h16 : ∀ (x : BitVec 32) (w : World), Calls Tryz.prog 148 #[V x, .int .i64 16] w fun e w' => e = .returned (V (rotl x 16)) ∧ w' = w := fun x w => refLeftK x 16 (by decide) w
  have h12 : ∀ (x : BitVec 32) (w : World), Calls Tryz.prog 148 #[V x, .int .i64 12] w fun e w' => e = .returned (V (rotl x 12)) ∧ w' = w := fun x w => refLeftK x 12 (by decide) w
  have h8 : ∀ (x : BitVec 32) (w : World), Calls Tryz.prog 148 #[V x, .int .i64 8] w fun e w' => e = .returned (V (rotl x 8)) ∧ w' = w := fun x w => refLeftK x 8 (by decide) w
  have h7 : ∀ (x : BitVec 32) (w : World), Calls Tryz.prog 148 #[V x, .int .i64 7] w fun e w' => e = .returned (V (rotl x 7)) ∧ w' = w := fun x w => refLeftK x 7 (by decide) w
  have H16 := Lib.hid h16
  have H12 := Lib.hid h12
  have H8 := Lib.hid h8
  have H7 := Lib.hid h7
  clear h16 h12 h8 h7
  go_enter Tryz.func219, Tryz.ntmps219
  go_wp2_with (go_at_call 148; first
    | (with_reducible refine (H16.out _ _).mono ?_
       rintro e w1 ⟨rfl, rfl⟩)
    | (with_reducible refine (H12.out _ _).mono ?_
       rintro e w1 ⟨rfl, rfl⟩)
    | (with_reducible refine (H8.out _ _).mono ?_
       rintro e w1 ⟨rfl, rfl⟩)
    | (with_reducible refine (H7.out _ _).mono ?_
       rintro e w1 ⟨rfl, rfl⟩))
  refine bodyPost_ret (v := qv (quarter a b c d)) (by simp [results, Tryz.results219, go_sem]; rfl) rfl ⟨rfl, rfl⟩
end Go.Proofs.YticdbilkhkfopaaGreat
set_option linter.unusedSimpArgs false
set_option linter.unusedVariables false
namespace Go.Esc
open Go Go.RowKit
theorem putL_last (v k : Nat) : putL v (k+1) = putL v k ++ [UInt8.ofNat (v / 256 ^ k)] := by
  rw [putL_append v k 1]; rfl
theorem set_little (v m k : Nat) (h : k < m) : (cells (putL v k ++ List.replicate (m-k) 0)).set k (.int .u8 ((v / 2^(8*k) % 256 : Nat) : Int)) = cells (putL v (k+1) ++ List.replicate (m-(k+1)) 0) := by
  obtain ⟨j, hj⟩ : ∃ j, m - k = j + 1 := ⟨m - (k+1), by omega⟩
  have : ((v / 2^(8*k) % 256 : Nat) : Int) = ((UInt8.ofNat (v / 256^k)).toNat : Int) := by
    rw [Nat.pow_mul]; simp
  rw [this, cells_set, hj, show m - (k + 1) = j by omega, List.replicate_succ, List.set_append]
  simp [putL_length, putL_last]
theorem leN_drop (l : Bs) (k : Nat) (h : k < l.length) : leN (l.drop k) = l[k].toNat + 256 * leN (l.drop (k+1)) := by
  rw [List.drop_eq_getElem_cons h]; rfl
theorem leN_drop_le (l : Bs) (k : Nat) (h : l.length ≤ 8) (hk : 0 < k) : leN (l.drop k) ≤ 72057594037927935 := by
  have h1 := leN_lt (l.drop k)
  have h2 : 256 ^ (l.drop k).length ≤ 256 ^ 7 := Nat.pow_le_pow_right (by decide) (by simp; omega)
  have h3 : (256 : Nat) ^ 7 = 72057594037927936 := by decide
  omega
end Go.Esc
namespace Go.Proofs.YticdbilkhkfopaaGreat
open Go.RowKit Go.Esc
set_option maxHeartbeats 400000 in
theorem putLittle (v : Int) (n : Int) (w : World) (hv : 0 ≤ v) (hn : 1 ≤ n) (hn8 : n ≤ 8) :
    Calls Tryz.prog 208 #[.int .u64 v, .int .i64 n] w fun e w' => e = .returned (S (putL v.toNat n.toNat)) ∧ Pu w w' := by
  obtain ⟨i0, hi, hz0, hz1, hz2⟩ := info_parts infoB
  obtain ⟨m, rfl⟩ := Int.eq_ofNat_of_zero_le (by omega : 0 ≤ n)
  obtain ⟨u, rfl⟩ := Int.eq_ofNat_of_zero_le (by omega : 0 ≤ v)
  have h1 : decide ((m:Int) < 1) = false := by simp; omega
  have h2 : decide ((8:Int) < m) = false := by simp; omega
  go_enter Tryz.func208, Tryz.ntmps208
  go_wp2_with (at_make; refine wpList_make_full _ rfl _ _ 42 rfl w.heap.size 5 i0 (.int .u8 0) 1 Tryz.underlying42 hi hz0 hz1 _ _ _ _ m rfl rfl rfl rfl (by rw [hz2]; omega) (by unfold maxLen; omega) (Nat.le_refl _) ?_; intro w1 hown hgrow)
  go_loopw [17] (fun i wr => ∃ k : Nat, k ≤ m ∧ i = .int .i64 k ∧ wr.ownsRow w.heap.size 5 1 (.slice (some ⟨w.heap.size, 0, none⟩) m m) m (cells (putL u k ++ List.replicate (m-k) 0)) ∧ Below w.heap.size w wr) (fun i _ => m - (intOf i).toNat)
  case atStart => exact ⟨0, Nat.zero_le _, rfl, by rw [madeZ] at hown; simpa [putL] using hown, (Below.refl _ _).grown hgrow (Nat.le_refl _) (by simp)⟩
  case round =>
    obtain ⟨k, hk, rfl, hown, hbel⟩ := hrel
    by_cases hlt : k < m
    · have hl : (putL u k ++ List.replicate (m-k) 0).length = m := by simp [putL_length]; omega
      have hc := hown.cellAt k (by omega)
      rw [cells_get _ _ (by omega)] at hc
      have hf := hown.frozenAt k
      have hst := hown.stored k (.int .u8 ((u / 2^(8*k) % 256 : Nat) : Int))
      rw [set_little u m k hlt] at hst
      go_wp2_with fail
      go_roundw
      case rel => exact ⟨k+1, by omega, by go_num, hst.1, hbel.grown hst.2 hbel.size (by simp)⟩
      case measure => simp [intOf]; omega
    · obtain rfl : k = m := by omega
      simp only [Nat.sub_self, List.replicate_zero, List.append_nil] at hown
      have hcv := own_conv (P := Tryz.prog) 42 9 hown Tryz.underlying42 Tryz.underlying5 Tryz.underlying9
      go_wp2_with fail
      go_ret
      exact ⟨rfl, hbel⟩
set_option maxHeartbeats 800000 in
theorem refPutLittle (v : Int) (n : Int) (w : World) (hv : 0 ≤ v) (hv2 : v < 18446744073709551616) (hn : 1 ≤ n) (hn8 : n ≤ 8) :
    Calls Tryz.prog 175 #[.int .u64 v, .int .i64 n] w fun e w' => e = .returned (S (putL v.toNat n.toNat)) ∧ Pu w w' := by
  obtain ⟨i0, hi, hz0, hz1, hz2⟩ := info_parts infoB
  obtain ⟨m, rfl⟩ := Int.eq_ofNat_of_zero_le (by omega : 0 ≤ n)
  obtain ⟨u, rfl⟩ := Int.eq_ofNat_of_zero_le (by omega : 0 ≤ v)
  have h1 : decide ((m:Int) < 1) = false := by simp; omega
  have h2 : decide ((8:Int) < m) = false := by simp; omega
  go_enter Tryz.func175, Tryz.ntmps175
  go_wp2_with (at_make; refine wpList_make_full _ rfl _ _ 42 rfl w.heap.size 5 i0 (.int .u8 0) 1 Tryz.underlying42 hi hz0 hz1 _ _ _ _ m rfl rfl rfl rfl (by rw [hz2]; omega) (by unfold maxLen; omega) (Nat.le_refl _) ?_; intro w1 hown hgrow)
  go_loopw [0, 6] (fun x i wr => ∃ k : Nat, k ≤ m ∧ x = .int .u64 ((u / 256 ^ k : Nat) : Int) ∧ i = .int .i64 k ∧ wr.ownsRow w.heap.size 5 1 (.slice (some ⟨w.heap.size, 0, none⟩) m m) m (cells (putL u k ++ List.replicate (m-k) 0)) ∧ Below w.heap.size w wr) (fun _ i _ => m - (intOf i).toNat)
  case atStart => exact ⟨0, Nat.zero_le _, by simp, rfl, by rw [madeZ] at hown; simpa [putL] using hown, (Below.refl _ _).grown hgrow (Nat.le_refl _) (by simp)⟩
  case round =>
    obtain ⟨k, hk, rfl, rfl, hown, hbel⟩ := hrel
    by_cases hlt : k < m
    · have hl : (putL u k ++ List.replicate (m-k) 0).length = m := by simp [putL_length]; omega
      have hse := set_little u m k hlt
      have hc := hown.cellAt k (by rw [Nat.mul_one]; exact hlt)
      rw [cells_get _ _ (by omega)] at hc
      have hf := hown.frozenAt k
      have hst := hown.stored k (.int .u8 ((u / 2^(8*k) % 256 : Nat) : Int))
      rw [hse] at hst
      clear hse
      obtain ⟨y, hy⟩ : ∃ y, y = u / 256 ^ k := ⟨_, rfl⟩
      have hyl : y < 18446744073709551616 := by rw [hy]; exact Nat.lt_of_le_of_lt (Nat.div_le_self _ _) (by omega)
      have hp : u / 2 ^ (8*k) = y := by rw [hy, Nat.pow_mul]
      have hn : u / 256 ^ (k+1) = y / 256 := by rw [hy, Nat.pow_succ, Nat.div_div_eq_div_mul]
      rw [hp] at hst
      rw [← hy]
      have ha := and255 y hyl
      have hw : IntKind.u8.wrap ((y % 256 : Nat) : Int) = ((y % 256 : Nat) : Int) := by rw [IntKind.wrap_u8]; omega
      have hq : ((y : Int)).tdiv 256 = ((y / 256 : Nat) : Int) := by rw [Int.tdiv_eq_ediv_of_nonneg (by omega)]; omega
      have hk0 : (0 : Int) ≤ k := by omega
      have hkm : (k : Int) < m := by omega
      obtain ⟨r, hr⟩ : ∃ r, r = y % 256 := ⟨_, rfl⟩
      obtain ⟨q, hq2⟩ : ∃ q, q = y / 256 := ⟨_, rfl⟩
      rw [← hr] at ha hw hst
      rw [← hq2] at hq hn
      have hr256 : r < 256 := by omega
      have hql : IntKind.u64.wrap (q : Int) = q := by rw [IntKind.wrap_u64]; omega
      have HN := Lib.hid hn
      clear hy hp hn hr hq2 hv2 hyl
      go_wp2_with fail
      go_roundw
      case rel => exact ⟨k+1, by omega, by rw [HN.out], by go_num, hst.1, hbel.grown hst.2 hbel.size (by simp)⟩
      case measure => simp [intOf]; omega
    · obtain rfl : k = m := by omega
      simp only [Nat.sub_self, List.replicate_zero, List.append_nil] at hown
      have hcv := own_conv (P := Tryz.prog) 42 9 hown Tryz.underlying42 Tryz.underlying5 Tryz.underlying9
      obtain ⟨y, hy⟩ : ∃ y, y = u / 256 ^ k := ⟨_, rfl⟩
      rw [← hy]
      clear hy
      go_wp2_with fail
      go_ret
      exact ⟨rfl, hbel⟩
set_option maxHeartbeats 800000 in
theorem little (l : List UInt8) (w : World) (hl : l.length ≤ 8) :
    Calls Tryz.prog 237 #[S l] w fun e w' => e = .returned (.int .u64 (leN l : Nat)) ∧ w' = w := by
  by_cases h8 : l.length = 8
  · have hz : IntKind.i64.wrap ((8 : Int) - 1) = 7 := rfl
    go_enter Tryz.func237, Tryz.ntmps237
    go_wp2_with fail
    go_loop [3, 4] (fun v i => (∃ p : Nat, p < l.length ∧ i = .int .i64 (p : Int) ∧ v = .int .u64 (leN (l.drop (p+1)) : Nat)) ∨ (i = .int .i64 (-1) ∧ v = .int .u64 (leN l : Nat))) (fun _ i => (intOf i + 1).toNat)
    case atStart =>
      rcases (by omega : l.length = 0 ∨ 0 < l.length) with h0 | h0
      · right
        obtain rfl : l = [] := List.eq_nil_of_length_eq_zero h0
        first | exact ⟨rfl, rfl⟩ | (exfalso; simp at h8)
      · left
        refine ⟨l.length - 1, by omega, ?_, ?_⟩
        · first | go_num | exact congrArg (Value.int .i64) (by omega)
        · rw [show l.length - 1 + 1 = l.length by omega, List.drop_length]; rfl
    case round =>
      rcases hrel with ⟨p, hp, rfl, rfl⟩ | ⟨rfl, rfl⟩
      · have hs := leN_drop l p hp
        have hb := leN_drop_le l (p+1) hl (by omega)
        obtain ⟨x, hx⟩ : ∃ x, x = leN (l.drop (p+1)) := ⟨_, rfl⟩
        obtain ⟨c, hc⟩ : ∃ c, l[p] = c := ⟨_, rfl⟩
        have hu := c.toNat_lt
        rw [← hx] at hb hs
        rw [hc] at hs
        rw [← hx]
        have q1 : IntKind.u64.wrap ((x : Int) * 256) = x * 256 := by rw [IntKind.wrap_u64]; omega
        have q2 : IntKind.u64.wrap ((x : Int) * 256 + c.toNat) = x * 256 + c.toNat := by rw [IntKind.wrap_u64]; omega
        have q3 : IntKind.u64.wrap (c.toNat : Int) = c.toNat := by rw [IntKind.wrap_u64]; omega
        have q4 : Go.bits .or .u64 ((x : Int) * 256) (c.toNat : Int) = ((x * 256 + c.toNat : Nat) : Int) := bits_or256 _ _ hb hu
        have q5 : (0 : Int) ≤ p := by omega
        have q6 : (p : Int) < l.length := by omega
        have q7 : IntKind.i64.wrap ((p : Int) - 1) = p - 1 := by rw [IntKind.wrap_i64]; omega
        have HS := Lib.hid hs
        clear hx hs
        go_wp2_with fail
        go_round
        case rel =>
          have hs := HS.out
          rcases p with _ | p
          · right
            refine ⟨rfl, ?_⟩
            rw [List.drop_zero] at hs
            rw [hs]; first | rfl | exact congrArg (Value.int .u64) (by omega)
          · left
            refine ⟨p, by omega, ?_, ?_⟩
            · exact congrArg (Value.int .i64) (by omega)
            · rw [hs]; exact congrArg (Value.int .u64) (by omega)
        case measure => first | (simp [intOf]; done) | (simp [intOf]; omega)
      · go_wp2_with fail
        go_ret
        exact ⟨rfl, rfl⟩
  · have h9 : (l.length : Int) < 8 := by omega
    have hz : IntKind.i64.wrap ((l.length : Int) - 1) = l.length - 1 := by rw [IntKind.wrap_i64]; omega
    go_enter Tryz.func237, Tryz.ntmps237
    go_wp2_with fail
    go_loop [3, 4] (fun v i => (∃ p : Nat, p < l.length ∧ i = .int .i64 (p : Int) ∧ v = .int .u64 (leN (l.drop (p+1)) : Nat)) ∨ (i = .int .i64 (-1) ∧ v = .int .u64 (leN l : Nat))) (fun _ i => (intOf i + 1).toNat)
    case atStart =>
      rcases (by omega : l.length = 0 ∨ 0 < l.length) with h0 | h0
      · right
        obtain rfl : l = [] := List.eq_nil_of_length_eq_zero h0
        first | exact ⟨rfl, rfl⟩ | (exfalso; simp at h8)
      · left
        refine ⟨l.length - 1, by omega, ?_, ?_⟩
        · first | go_num | exact congrArg (Value.int .i64) (by omega)
        · rw [show l.length - 1 + 1 = l.length by omega, List.drop_length]; rfl
    case round =>
      rcases hrel with ⟨p, hp, rfl, rfl⟩ | ⟨rfl, rfl⟩
      · have hs := leN_drop l p hp
        have hb := leN_drop_le l (p+1) hl (by omega)
        obtain ⟨x, hx⟩ : ∃ x, x = leN (l.drop (p+1)) := ⟨_, rfl⟩
        obtain ⟨c, hc⟩ : ∃ c, l[p] = c := ⟨_, rfl⟩
        have hu := c.toNat_lt
        rw [← hx] at hb hs
        rw [hc] at hs
        rw [← hx]
        have q1 : IntKind.u64.wrap ((x : Int) * 256) = x * 256 := by rw [IntKind.wrap_u64]; omega
        have q2 : IntKind.u64.wrap ((x : Int) * 256 + c.toNat) = x * 256 + c.toNat := by rw [IntKind.wrap_u64]; omega
        have q3 : IntKind.u64.wrap (c.toNat : Int) = c.toNat := by rw [IntKind.wrap_u64]; omega
        have q4 : Go.bits .or .u64 ((x : Int) * 256) (c.toNat : Int) = ((x * 256 + c.toNat : Nat) : Int) := bits_or256 _ _ hb hu
        have q5 : (0 : Int) ≤ p := by omega
        have q6 : (p : Int) < l.length := by omega
        have q7 : IntKind.i64.wrap ((p : Int) - 1) = p - 1 := by rw [IntKind.wrap_i64]; omega
        have HS := Lib.hid hs
        clear hx hs
        go_wp2_with fail
        go_round
        case rel =>
          have hs := HS.out
          rcases p with _ | p
          · right
            refine ⟨rfl, ?_⟩
            rw [List.drop_zero] at hs
            rw [hs]; first | rfl | exact congrArg (Value.int .u64) (by omega)
          · left
            refine ⟨p, by omega, ?_, ?_⟩
            · exact congrArg (Value.int .i64) (by omega)
            · rw [hs]; exact congrArg (Value.int .u64) (by omega)
        case measure => first | (simp [intOf]; done) | (simp [intOf]; omega)
      · go_wp2_with fail
        go_ret
        exact ⟨rfl, rfl⟩
set_option maxHeartbeats 800000 in
theorem refLittle (l : List UInt8) (w : World) (hl : l.length ≤ 8) :
    Calls Tryz.prog 218 #[S l] w fun e w' => e = .returned (.int .u64 (leN l : Nat)) ∧ w' = w := by
  by_cases h8 : l.length = 8
  · have hz : IntKind.i64.wrap ((8 : Int) - 1) = 7 := rfl
    go_enter Tryz.func218, Tryz.ntmps218
    go_wp2_with fail
    go_loop [3, 4] (fun v i => (∃ p : Nat, p < l.length ∧ i = .int .i64 (p : Int) ∧ v = .int .u64 (leN (l.drop (p+1)) : Nat)) ∨ (i = .int .i64 (-1) ∧ v = .int .u64 (leN l : Nat))) (fun _ i => (intOf i + 1).toNat)
    case atStart =>
      rcases (by omega : l.length = 0 ∨ 0 < l.length) with h0 | h0
      · right
        obtain rfl : l = [] := List.eq_nil_of_length_eq_zero h0
        first | exact ⟨rfl, rfl⟩ | (exfalso; simp at h8)
      · left
        refine ⟨l.length - 1, by omega, ?_, ?_⟩
        · first | go_num | exact congrArg (Value.int .i64) (by omega)
        · rw [show l.length - 1 + 1 = l.length by omega, List.drop_length]; rfl
    case round =>
      rcases hrel with ⟨p, hp, rfl, rfl⟩ | ⟨rfl, rfl⟩
      · have hs := leN_drop l p hp
        have hb := leN_drop_le l (p+1) hl (by omega)
        obtain ⟨x, hx⟩ : ∃ x, x = leN (l.drop (p+1)) := ⟨_, rfl⟩
        obtain ⟨c, hc⟩ : ∃ c, l[p] = c := ⟨_, rfl⟩
        have hu := c.toNat_lt
        rw [← hx] at hb hs
        rw [hc] at hs
        rw [← hx]
        have q1 : IntKind.u64.wrap ((x : Int) * 256) = x * 256 := by rw [IntKind.wrap_u64]; omega
        have q2 : IntKind.u64.wrap ((x : Int) * 256 + c.toNat) = x * 256 + c.toNat := by rw [IntKind.wrap_u64]; omega
        have q3 : IntKind.u64.wrap (c.toNat : Int) = c.toNat := by rw [IntKind.wrap_u64]; omega
        have q4 : Go.bits .or .u64 ((x : Int) * 256) (c.toNat : Int) = ((x * 256 + c.toNat : Nat) : Int) := bits_or256 _ _ hb hu
        have q5 : (0 : Int) ≤ p := by omega
        have q6 : (p : Int) < l.length := by omega
        have q7 : IntKind.i64.wrap ((p : Int) - 1) = p - 1 := by rw [IntKind.wrap_i64]; omega
        have HS := Lib.hid hs
        clear hx hs
        go_wp2_with fail
        go_round
        case rel =>
          have hs := HS.out
          rcases p with _ | p
          · right
            refine ⟨rfl, ?_⟩
            rw [List.drop_zero] at hs
            rw [hs]; first | rfl | exact congrArg (Value.int .u64) (by omega)
          · left
            refine ⟨p, by omega, ?_, ?_⟩
            · exact congrArg (Value.int .i64) (by omega)
            · rw [hs]; exact congrArg (Value.int .u64) (by omega)
        case measure => first | (simp [intOf]; done) | (simp [intOf]; omega)
      · go_wp2_with fail
        go_ret
        exact ⟨rfl, rfl⟩
  · have h9 : (l.length : Int) < 8 := by omega
    have hz : IntKind.i64.wrap ((l.length : Int) - 1) = l.length - 1 := by rw [IntKind.wrap_i64]; omega
    go_enter Tryz.func218, Tryz.ntmps218
    go_wp2_with fail
    go_loop [3, 4] (fun v i => (∃ p : Nat, p < l.length ∧ i = .int .i64 (p : Int) ∧ v = .int .u64 (leN (l.drop (p+1)) : Nat)) ∨ (i = .int .i64 (-1) ∧ v = .int .u64 (leN l : Nat))) (fun _ i => (intOf i + 1).toNat)
    case atStart =>
      rcases (by omega : l.length = 0 ∨ 0 < l.length) with h0 | h0
      · right
        obtain rfl : l = [] := List.eq_nil_of_length_eq_zero h0
        first | exact ⟨rfl, rfl⟩ | (exfalso; simp at h8)
      · left
        refine ⟨l.length - 1, by omega, ?_, ?_⟩
        · first | go_num | exact congrArg (Value.int .i64) (by omega)
        · rw [show l.length - 1 + 1 = l.length by omega, List.drop_length]; rfl
    case round =>
      rcases hrel with ⟨p, hp, rfl, rfl⟩ | ⟨rfl, rfl⟩
      · have hs := leN_drop l p hp
        have hb := leN_drop_le l (p+1) hl (by omega)
        obtain ⟨x, hx⟩ : ∃ x, x = leN (l.drop (p+1)) := ⟨_, rfl⟩
        obtain ⟨c, hc⟩ : ∃ c, l[p] = c := ⟨_, rfl⟩
        have hu := c.toNat_lt
        rw [← hx] at hb hs
        rw [hc] at hs
        rw [← hx]
        have q1 : IntKind.u64.wrap ((x : Int) * 256) = x * 256 := by rw [IntKind.wrap_u64]; omega
        have q2 : IntKind.u64.wrap ((x : Int) * 256 + c.toNat) = x * 256 + c.toNat := by rw [IntKind.wrap_u64]; omega
        have q3 : IntKind.u64.wrap (c.toNat : Int) = c.toNat := by rw [IntKind.wrap_u64]; omega
        have q4 : Go.bits .or .u64 ((x : Int) * 256) (c.toNat : Int) = ((x * 256 + c.toNat : Nat) : Int) := bits_or256 _ _ hb hu
        have q5 : (0 : Int) ≤ p := by omega
        have q6 : (p : Int) < l.length := by omega
        have q7 : IntKind.i64.wrap ((p : Int) - 1) = p - 1 := by rw [IntKind.wrap_i64]; omega
        have HS := Lib.hid hs
        clear hx hs
        go_wp2_with fail
        go_round
        case rel =>
          have hs := HS.out
          rcases p with _ | p
          · right
            refine ⟨rfl, ?_⟩
            rw [List.drop_zero] at hs
            rw [hs]; first | rfl | exact congrArg (Value.int .u64) (by omega)
          · left
            refine ⟨p, by omega, ?_, ?_⟩
            · exact congrArg (Value.int .i64) (by omega)
            · rw [hs]; exact congrArg (Value.int .u64) (by omega)
        case measure => first | (simp [intOf]; done) | (simp [intOf]; omega)
      · go_wp2_with fail
        go_ret
        exact ⟨rfl, rfl⟩
end Go.Proofs.YticdbilkhkfopaaGreat
