/- The document's host: Got. -/
import Derived.Test.YtlbdbmnkjljohaaGreatBookF
import Derived.Test.YtlbdbmnkjljohaaGreatRefHello2
import Derived.Test.YtlbdbmnkjljohaaGreatT17
set_option linter.unusedSimpArgs false
set_option linter.unusedVariables false
namespace Go.Proofs.YtlbdbmnkjljohaaGreat
open Go.RowKit Go.Esc
def stepOf (s : HSt) : Nat := if s.done then 2 else if s.bad then 3 else s.got
def HOk (s : HSt) : Prop := s.bad = false → s.done = false → s.got ≤ 1
def refC (bb : Nat) (nonce : Bs) (st : Nat) (s : HSt) : List Value := [.pointer (some ⟨bb, 0, none⟩), S nonce, .int .i64 (st : Int), S s.user, S s.papers, S s.up, S s.down]
def RefRow (w : World) (rb bb : Nat) (nonce : Bs) (st : Nat) (s : HSt) : Prop := Row w rb 75 (refC bb nonce st s)
theorem RefRow.cells {w : World} {rb bb : Nat} {nonce : Bs} {st : Nat} {s : HSt} (h : RefRow w rb bb nonce st s) : w.cell? ⟨rb, 0, none⟩ = some (.pointer (some ⟨bb, 0, none⟩)) ∧ w.cell? ⟨rb, 1, none⟩ = some (S nonce) ∧ w.cell? ⟨rb, 2, none⟩ = some (.int .i64 (st : Int)) ∧ w.cell? ⟨rb, 3, none⟩ = some (S s.user) ∧ w.cell? ⟨rb, 4, none⟩ = some (S s.papers) := by
  have h : Row w rb 75 (refC bb nonce st s) := h
  refine ⟨?_, ?_, ?_, ?_, ?_⟩
  · have := h.cell 0 (by simp [refC]); simpa [refC] using this
  · have := h.cell 1 (by simp [refC]); simpa [refC] using this
  · have := h.cell 2 (by simp [refC]); simpa [refC] using this
  · have := h.cell 3 (by simp [refC]); simpa [refC] using this
  · have := h.cell 4 (by simp [refC]); simpa [refC] using this
theorem RefRow.fr {w : World} {rb bb : Nat} {nonce : Bs} {st : Nat} {s : HSt} (h : RefRow w rb bb nonce st s) (j : Nat) (hj : j < 7) : w.frozen? ⟨rb, j, none⟩ = false := Row.frozen (xs := refC bb nonce st s) h j (by simpa [refC] using hj)
/-- The document's host and its book. -/
structure RB (w0 w : World) (rb bb : Nat) (x : BI) (nonce : Bs) (st : Nat) (s : HSt) (l : List UserS) : Prop where
  h : RefRow w rb bb nonce st s
  k : BookAt w bb x l
  cg : Cg (fun g => x.G g ∨ g = rb) w0 w
section
variable {w0 w : World} {rb bb : Nat} {x : BI} {nonce : Bs} {st : Nat} {s : HSt} {l : List UserS}
theorem RB.pu (h : RB w0 w rb bb x nonce st s l) {w' : World} (hp : Pu w w') : RB w0 w' rb bb x nonce st s l := ⟨Row.pu h.h hp, h.k.pu hp, h.cg.pu hp⟩
theorem RB.notG (h : RB w0 w rb bb x nonce st s l) : ¬ x.G rb := by
  have hr : Row w rb 75 (refC bb nonce st s) := h.h
  rintro (e | e | e)
  · exact rowNe hr h.k.f (by decide) e
  · exact rowNe hr h.k.u (by decide) e
  · exact rowNe hr h.k.k (by decide) e
theorem RB.host (h : RB w0 w rb bb x nonce st s l) {w' : World} {st' : Nat} {s' : HSt} (hr : RefRow w' rb bb nonce st' s') (hb : But rb w w') : RB w0 w' rb bb x nonce st' s' l := by
  have hr0 : Row w rb 75 (refC bb nonce st s) := h.h
  refine ⟨hr, h.k.cg (H := fun g => g = rb) (Cg.ofBut hb rfl) ?_ ?_ ?_, h.cg.trans (Cg.ofBut hb (.inr rfl))⟩
  · exact fun e => rowNe h.k.b hr0 (by decide) e
  · exact fun hl e => rowNe (h.k.usr hl).2 hr0 (by decide) e
  · exact fun g hg e => h.notG (e ▸ hg)
theorem RB.book (h : RB w0 w rb bb x nonce st s l) {w' : World} {l' : List UserS} (hk : BookAt w' bb x l') (hc : Cg x.G w w') : RB w0 w' rb bb x nonce st s l' :=
  ⟨hc.row (xs := refC bb nonce st s) h.h h.notG, hk, h.cg.trans (hc.mono fun g hg => .inl hg)⟩
theorem RB.step (h : RB w0 w rb bb x nonce st s l) (n : Nat) : RB w0 (w.setCell ⟨rb, 2, none⟩ (.int .i64 (n : Int))) rb bb x nonce n s l :=
  h.host (Row.set (xs := refC bb nonce st s) h.h 2 (.int .i64 (n : Int))) (But.set _ _ _)
theorem flatU_sec : ∀ (zs : List (Bs × Bs)) (i : Nat) (hi : i < zs.length), (flatU zs)[i * 2 + 1]? = some (S (zs[i]).2)
  | x :: r, 0, _ => rfl
  | x :: r, i+1, hi => by
    have := flatU_sec r i (by simpa using hi)
    rw [show (i + 1) * 2 + 1 = i * 2 + 1 + 1 + 1 by omega]
    simpa [flatU] using this
set_option maxRecDepth 100000 in
set_option maxHeartbeats 3200000 in
theorem refGot (h : RB w0 w rb bb x nonce (stepOf s) s l) (hok : HOk s) (hn : nonce.length = 16) (hl : ∀ u ∈ l, u.secret.length = 32) (hpl : s.papers.length ≤ 10000) (b : Bs) (hbl : b.length ≤ 10000) (now : Int) (n1 : -9223372036854775808 ≤ now) (n2 : now ≤ 9223372036854775807) :
    Calls Tryz.prog 40 #[.pointer (some ⟨rb, 0, none⟩), S b, .int .i64 now] w fun e w' => e = .returned (.tuple #[S (gotR nonce l s b now).out, .int .i64 ((gotR nonce l s b now).err : Int)]) ∧ RB w0 w' rb bb x nonce (stepOf (gotR nonce l s b now).st) (gotR nonce l s b now).st (gotR nonce l s b now).l := by
  have hi2 : (Tryz.prog.info? 32).map (·.size) = some 2 := by kernel_rfl
  have hi4 : (Tryz.prog.info? 44).map (·.size) = some 2 := by kernel_rfl
  obtain ⟨c0, c1, c2, c3, c4⟩ := h.h.cells
  by_cases hov : s.bad = true ∨ s.done = true
  · have e9 : gotR nonce l s b now = ⟨[], 7, s, l⟩ := by unfold gotR; rw [if_pos hov]
    rw [e9]
    have hst : 2 ≤ stepOf s ∧ stepOf s ≤ 3 := by
      unfold stepOf
      cases hd : s.done with
      | true => simp
      | false =>
        rcases hov with hb | hb
        · simp [hb]
        · rw [hd] at hb; cases hb
    obtain ⟨k, hk⟩ : ∃ k, k = stepOf s := ⟨_, rfl⟩
    rw [← hk] at h c2 hst ⊢
    have q1 : ((k : Int) == 0) = false := by simp; omega
    have q2 : ((k : Int) == 1) = false := by simp; omega
    have H := Lib.hid h
    clear e9 hov hok h hk
    go_enter Tryz.func40, Tryz.ntmps40
    go_wp2_with fail
    go_ret2
    exact ⟨rfl, H.out⟩
  have hbd : s.bad = false := by cases hb : s.bad with | false => rfl | true => exact absurd (.inl hb) hov
  have hdn : s.done = false := by cases hb : s.done with | false => rfl | true => exact absurd (.inr hb) hov
  have hg1 := hok hbd hdn
  have hso : stepOf s = s.got := by unfold stepOf; rw [hdn, hbd]; rfl
  rw [hso] at h c2
  by_cases hg0 : s.got = 0
  · rw [hg0] at h c2
    have hG := fun w => refGetHello b hbl w
    cases hgh : getHello b with
    | none =>
      have e9 : gotR nonce l s b now = ⟨[], 2, { s with got := 1, bad := true }, l⟩ := by
        unfold gotR greetR greetS
        rw [if_neg hov, if_pos hg0, hgh, hg0]
        rfl
      rw [e9]
      rw [hgh] at hG
      have hG' : ∀ w, Calls Tryz.prog 36 #[S b] w fun e w' => e = .returned (.tuple #[.agg #[S [], S []], .bool false]) ∧ Pu w w' := hG
      have HG := Lib.hid hG'
      have hst : stepOf { s with got := 1, bad := true } = 3 := by unfold stepOf; simp [hdn]
      rw [hst]
      clear hG hG' e9 hgh hst hov hok
      go_enter Tryz.func40, Tryz.ntmps40
      go_wp2_with (first
        | (go_at_call 36; refine (HG.out _).mono ?_; rintro e w1 ⟨rfl, hp1⟩)
        | (refine wpList_store_part rfl 32 (.tmp 8) (.tmp 24) rfl w1.heap.size 0 [S [], S []] (by rfl) (by rfl) (Row.newAt w1 w1.heap.size _ _ rfl rfl) hi2 (by simp) (by simp [Value.oneCell']) ?_; intro w2 hr2 hch2
           have hp2 : Pu w1 w2 := hch2.below ((Pu.refl w1).alloc _) (Nat.le_refl _)
           have h2 := (h.pu hp1).pu hp2
           obtain ⟨d0, d1, d2, d3, d4⟩ := h2.h.cells
           have df := h2.h.fr 2 (by decide)
           clear hch2))
      go_ret2
      have h9 := h2.step 3
      exact ⟨rfl, ⟨h9.h, h9.k, h9.cg⟩⟩
    | some un =>
      obtain ⟨u, n⟩ := un
      have e9 : gotR nonce l s b now = ⟨chalL nonce, 0, { s with got := 1, bad := false, user := u, papers := b ++ chalL nonce }, l⟩ := by
        unfold gotR greetR greetS
        rw [if_neg hov, if_pos hg0, hgh, hg0]
        rfl
      rw [e9]
      rw [hgh] at hG
      have hG' : ∀ w, Calls Tryz.prog 36 #[S b] w fun e w' => e = .returned (.tuple #[.agg #[S u, S n], .bool true]) ∧ Pu w w' := hG
      have hL : ∀ w, Calls Tryz.prog 44 #[.int .i64 2, S nonce] w fun e w' => e = .returned (S (chalL nonce)) ∧ Pu w w' := fun w => letterW 2 (by decide) nonce (by omega) w
      have hcl : (chalL nonce).length = 17 := by simp [chalL, hn]
      obtain ⟨c, hc⟩ : ∃ c, c = chalL nonce := ⟨_, rfl⟩
      rw [← hc] at hL hcl ⊢
      have hst : stepOf { s with got := 1, bad := false, user := u, papers := b ++ c } = 1 := by unfold stepOf; simp [hdn]
      rw [hst]
      have zz : ¬ (9223372036854775807 < b.length + 17) := by omega
      obtain ⟨pp, hpp⟩ : ∃ p, p = b ++ c := ⟨_, rfl⟩
      have hcat : bs b ++ bs c = bs pp := by rw [hpp, bs_append]
      rw [← hpp]
      have HG := Lib.hid hG'
      have HL := Lib.hid hL
      clear hG hG' e9 hgh hst hov hok hL hc hpp
      go_enter Tryz.func40, Tryz.ntmps40
      go_wp2_with (first
        | (go_at_call 36; refine (HG.out _).mono ?_; rintro e w1 ⟨rfl, hp1⟩)
        | (refine wpList_store_part rfl 32 (.tmp 8) (.tmp 24) rfl w1.heap.size 0 [S u, S n] (by rfl) (by rfl) (Row.newAt w1 w1.heap.size _ _ rfl rfl) hi2 (by simp) (by simp [Value.oneCell']) ?_; intro w2 hr2 hch2
           have hp2 : Pu w1 w2 := hch2.below ((Pu.refl w1).alloc _) (Nat.le_refl _)
           rw [splice_all (by rfl)] at hr2
           have h2 := (h.pu hp1).pu hp2
           obtain ⟨d0, d1, d2, d3, d4⟩ := h2.h.cells
           clear hch2)
        | (go_at_call 44; refine (HL.out _).mono ?_; rintro e w3 ⟨rfl, hp3⟩))
      have h3 := h2.pu hp3
      have hr3 := hr2.pu hp3
      have hne : w1.heap.size ≠ rb := by
        have := Row.lt (xs := refC bb nonce 0 s) (h.pu hp1).h
        omega
      have HH := Lib.hid h3
      clear d0 d1 d2 d3 d4 h2 hr2 h c0 c1 c2 c3 c4 h3
      apply region_chain (g := rb) (chain := [10, 13, 16]) (C := (fun q w' => Row w' rb 75 (refC bb nonce (if q = 0 then 0 else 1) { s with user := if q ≤ 1 then s.user else u, papers := if q ≤ 2 then s.papers else pp }))) (Φs := (Is _ :: Is _ :: Is _ :: Is _ :: Is _ :: Is _ :: Is _ :: Is _ :: Is _ :: Is _ :: Is _ :: Is _ :: Is _ :: Is _ :: Is _ :: Is _ :: Is _ :: [])) (hm := by kernel_rfl) (hE := by kernel_rfl) (hD := by kernel_rfl) (hup := by kernel_rfl) (hch := by kernel_rfl) (hsize := by kernel_rfl)
      case hC =>
        intro s a b h hp
        exact Row.pu h hp
      case hC0 =>
        exact HH.out.h
      case hop =>
        refine ⟨?_, ?_, ?_, ?_, ?_, ?_, ?_, ?_, ?_, ?_, ?_, ?_, ?_, ?_, ?_, ?_, ?_, trivial⟩
        · intro a' w' s hs hp hC hlo hhi he
          rw [if_neg (by decide)]
          clear hlo hhi
          have e0 := hs 0 (by kernel_rfl)
          try simp [Is, Region.binds] at he
          exact op_val rfl (wanted_none rfl) (by first | (go_simp; done) | (go_simp; rfl) | (simp [execOp, Act.eval, go_sem, *]; done) | (simp [execOp, Act.eval, go_sem, *]; rfl)) rfl (Pu.refl _)
        · intro a' w' s hs hp hC hlo hhi he
          rw [if_neg (by decide)]
          clear hlo hhi
          have e0 := hs 0 (by kernel_rfl)
          try simp [Is, Region.binds] at he
          exact op_val rfl (wanted_none rfl) (by first | (go_simp; done) | (go_simp; rfl) | (simp [execOp, Act.eval, go_sem, *]; done) | (simp [execOp, Act.eval, go_sem, *]; rfl)) rfl (Pu.refl _)
        · intro a' w' s hs hp hC hlo hhi he
          rw [if_neg (by decide)]
          clear hlo hhi
          have e0 := hs 0 (by kernel_rfl)
          try simp [Is, Region.binds] at he
          exact op_val rfl (wanted_none rfl) (by first | (go_simp; done) | (go_simp; rfl) | (simp [execOp, Act.eval, go_sem, *]; done) | (simp [execOp, Act.eval, go_sem, *]; rfl)) rfl (Pu.refl _)
        · intro a' w' s hs hp hC hlo hhi he
          rw [if_neg (by decide)]
          clear hlo hhi
          have e8 := hs 8 (by kernel_rfl)
          try simp [Is, Region.binds] at he
          exact op_val rfl (wanted_none rfl) (by first | (go_simp; done) | (go_simp; rfl) | (simp [execOp, Act.eval, go_sem, *]; done) | (simp [execOp, Act.eval, go_sem, *]; rfl)) rfl (Pu.refl _)
        · intro a' w' s hs hp hC hlo hhi he
          rw [if_neg (by decide)]
          clear hlo hhi
          try simp [Is, Region.binds] at he
          have hc := (hp.row hr3 hne).cell 0 (by simp); simp at hc; exact op_val rfl (wanted_none rfl) (by first | (go_simp; done) | (go_simp; rfl)) rfl (Pu.refl _)
        · intro a' w' s hs hp hC hlo hhi he
          rw [if_neg (by decide)]
          clear hlo hhi
          have e1 := hs 1 (by kernel_rfl)
          try simp [Is, Region.binds] at he
          exact op_val rfl (wanted_none rfl) (by first | (go_simp; done) | (go_simp; rfl) | (simp [execOp, Act.eval, go_sem, *]; done) | (simp [execOp, Act.eval, go_sem, *]; rfl)) rfl (Pu.refl _)
        · intro a' w' s hs hp hC hlo hhi he
          rw [if_neg (by decide)]
          clear hlo hhi
          have e10 := hs 10 (by kernel_rfl)
          try simp [Is, Region.binds] at he
          exact op_val rfl (wanted_none rfl) (by first | (go_simp; done) | (go_simp; rfl) | (simp [execOp, Act.eval, go_sem, *]; done) | (simp [execOp, Act.eval, go_sem, *]; rfl)) rfl (Pu.refl _)
        · intro a' w' s hs hp hC hlo hhi he
          rw [if_neg (by decide)]
          clear hlo hhi
          try simp [Is, Region.binds] at he
          exact op_val rfl (wanted_none rfl) (by first | (go_simp; done) | (go_simp; rfl) | (simp [execOp, Act.eval, go_sem, *]; done) | (simp [execOp, Act.eval, go_sem, *]; rfl)) rfl (Pu.refl _)
        · intro a' w' s hs hp hC hlo hhi he
          rw [if_neg (by decide)]
          clear hlo hhi
          try simp [Is, Region.binds] at he
          exact op_val rfl (wanted_none rfl) (by first | (go_simp; done) | (go_simp; rfl) | (simp [execOp, Act.eval, go_sem, *]; done) | (simp [execOp, Act.eval, go_sem, *]; rfl)) rfl (Pu.refl _)
        · intro a' w' s hs hp hC hlo hhi he
          rw [if_neg (by decide)]
          clear hlo hhi
          try simp [Is, Region.binds] at he
          exact op_val rfl (wanted_none rfl) (by first | (go_simp; done) | (go_simp; rfl) | (simp [execOp, Act.eval, go_sem, *]; done) | (simp [execOp, Act.eval, go_sem, *]; rfl)) rfl (Pu.refl _)
        · intro a' w' s hs hp hC hlo hhi he
          rw [if_pos (by decide)]; intro hsc; clear hsc
          have hs0 : s = 0 := Nat.le_antisymm (Nat.le_trans hhi (Nat.le_of_eq (by kernel_rfl))) (Nat.le_trans (Nat.le_of_eq (by kernel_rfl)) hlo)
          subst hs0
          clear hlo hhi
          try simp [Is, Region.binds] at he
          simp at hC; obtain ⟨u9, hc⟩ : ∃ u, w'.cell? ⟨rb, 2, none⟩ = some u := ⟨_, hC.cell 2 (by simp [refC])⟩; have hf := hC.frozen 2 (by simp [refC]); have h6 := hC.set 2 (.int .i64 1); exact op_doneC rfl (wanted_none rfl) (by first | (go_simp; done) | (go_simp; rfl)) rfl (by simpa [refC] using h6) (But.set _ _ _)
        · intro a' w' s hs hp hC hlo hhi he
          rw [if_neg (by decide)]
          clear hlo hhi
          try simp [Is, Region.binds] at he
          exact op_val rfl (wanted_none rfl) (by first | (go_simp; done) | (go_simp; rfl) | (simp [execOp, Act.eval, go_sem, *]; done) | (simp [execOp, Act.eval, go_sem, *]; rfl)) rfl (Pu.refl _)
        · intro a' w' s hs hp hC hlo hhi he
          rw [if_neg (by decide)]
          clear hlo hhi
          try simp [Is, Region.binds] at he
          exact op_val rfl (wanted_none rfl) (by first | (go_simp; done) | (go_simp; rfl) | (simp [execOp, Act.eval, go_sem, *]; done) | (simp [execOp, Act.eval, go_sem, *]; rfl)) rfl (Pu.refl _)
        · intro a' w' s hs hp hC hlo hhi he
          rw [if_pos (by decide)]; intro hsc; clear hsc
          have hs0 : s = 1 := Nat.le_antisymm (Nat.le_trans hhi (Nat.le_of_eq (by kernel_rfl))) (Nat.le_trans (Nat.le_of_eq (by kernel_rfl)) hlo)
          subst hs0
          clear hlo hhi
          try simp [Is, Region.binds] at he
          simp at hC; obtain ⟨u9, hc⟩ : ∃ u, w'.cell? ⟨rb, 3, none⟩ = some u := ⟨_, hC.cell 3 (by simp [refC])⟩; have hf := hC.frozen 3 (by simp [refC]); have h6 := hC.set 3 (S u); exact op_doneC rfl (wanted_none rfl) (by first | (go_simp; done) | (go_simp; rfl)) rfl (by simpa [refC] using h6) (But.set _ _ _)
        · intro a' w' s hs hp hC hlo hhi he
          rw [if_neg (by decide)]
          clear hlo hhi
          try simp [Is, Region.binds] at he
          exact op_val rfl (wanted_none rfl) (by first | (go_simp; done) | (go_simp; rfl) | (simp [execOp, Act.eval, go_sem, *]; done) | (simp [execOp, Act.eval, go_sem, *]; rfl)) rfl (Pu.refl _)
        · intro a' w' s hs hp hC hlo hhi he
          rw [if_neg (by decide)]
          clear hlo hhi
          try simp [Is, Region.binds] at he
          exact op_val rfl (wanted_none rfl) (by first | (go_simp; done) | (go_simp; rfl) | (simp [execOp, Act.eval, go_sem, *]; done) | (simp [execOp, Act.eval, go_sem, *]; rfl)) rfl (Pu.refl _)
        · intro a' w' s hs hp hC hlo hhi he
          rw [if_pos (by decide)]; intro hsc; clear hsc
          have hs0 : s = 2 := Nat.le_antisymm (Nat.le_trans hhi (Nat.le_of_eq (by kernel_rfl))) (Nat.le_trans (Nat.le_of_eq (by kernel_rfl)) hlo)
          subst hs0
          clear hlo hhi
          try simp [Is, Region.binds] at he
          simp at hC; obtain ⟨u9, hc⟩ : ∃ u, w'.cell? ⟨rb, 4, none⟩ = some u := ⟨_, hC.cell 4 (by simp [refC])⟩; have hf := hC.frozen 4 (by simp [refC]); have h6 := hC.set 4 (S pp); exact op_doneC rfl (wanted_none rfl) (by first | (go_simp; done) | (go_simp; rfl)) rfl (by simpa [refC] using h6) (But.set _ _ _)
      case hend =>
        intro a' w' hdef hsz hs hp hC hall
        obtain ⟨r0, r1, r2, r3, r4, r5, r6, r7, r8, r9, r10, r11, r12, r13, r14, r15, r16, -⟩ := hall
        have hA := agree_done (agree_step (agree_step (agree_step (agree_step (agree_step (agree_step (agree_step (agree_step (agree_step (agree_step (agree_step (agree_step (agree_step (agree_step (agree_init [36, 37, 38, 39, 40, 41, 42, 43, 44, 45, 46, 47, 48, 49] hsz hs (by kernel_rfl)) r0) r1) r2) r3) r4) r5) r6) r7) r8) r9) r11) r12) r14) r15)
        have ha := act_of hA hdef
        rw [ha]
        clear ha hA hs hsz hdef r0 r1 r2 r3 r4 r5 r6 r7 r8 r9 r10 r11 r12 r13 r14 r15 r16 
        (try simp only [List.setIfInBounds_toArray])
        (try dsimp only [List.set_cons_zero, List.set_cons_succ])
        (try simp only [Exit.then])
        simp at hC
        go_wp2_with fail
        go_ret2
        have h9 := HH.out.host (s' := { s with got := 1, bad := false, user := u, papers := pp }) hC hp
        exact ⟨rfl, ⟨h9.h, h9.k, h9.cg⟩⟩
  have hg : s.got = 1 := by omega
  rw [hg] at h c2
  have e0 : gotR nonce l s b now = ⟨(provR l { s with got := 2 } b now).out, (provR l { s with got := 2 } b now).err, { (provR l { s with got := 2 } b now).st with bad := !decide ((provR l { s with got := 2 } b now).err = 0) }, (provR l { s with got := 2 } b now).l⟩ := by
    unfold gotR
    rw [if_neg hov, if_neg hg0, hg]
  have hFx := fixedW 3 32 (by decide) (by decide) b (by omega) w
  have HS3 := Lib.hid (show RB w0 (w.setCell ⟨rb, 2, none⟩ (.int .i64 3)) rb bb x nonce 3 s l from h.step 3)
  have hst3 : stepOf { s with got := 2, bad := true } = 3 := by unfold stepOf; simp [hdn]
  have df := h.h.fr 2 (by decide)
  cases hf : fixR 3 32 b with
  | none =>
    have e9 : gotR nonce l s b now = ⟨[], 2, { s with got := 2, bad := true }, l⟩ := by
      rw [e0]; unfold provR; rw [hf]; rfl
    rw [e9, hst3]
    rw [hf] at hFx
    have hFx' : Calls Tryz.prog 17 #[.int .i64 3, .int .i64 32, S b] w fun e w' => e = .returned (.tuple #[S [], .bool false]) ∧ w' = w := hFx
    have HFX := Lib.hid hFx'
    clear e9 e0 hst3 hFx hFx' hf hov hok hso h
    go_enter Tryz.func40, Tryz.ntmps40
    go_wp2_with (go_at_call 17; refine HFX.out.mono ?_; rintro e w1 ⟨rfl, rfl⟩)
    go_ret2
    have h9 := HS3.out
    exact ⟨rfl, ⟨h9.h, h9.k, h9.cg⟩⟩
  | some m =>
    rw [hf] at hFx
    have hFx' : Calls Tryz.prog 17 #[.int .i64 3, .int .i64 32, S b] w fun e w' => e = .returned (.tuple #[S m, .bool true]) ∧ w' = w := hFx
    have HFX := Lib.hid hFx'
    clear hFx hFx'
    cases hp : posN l s.user with
    | none =>
      have e9 : gotR nonce l s b now = ⟨[], 6, { s with got := 2, bad := true }, l⟩ := by
        rw [e0]; unfold provR secV; rw [hf]; simp only; rw [hp]; rfl
      rw [e9, hst3]
      have HAV := Lib.hid (show atV l s.user = -1 by unfold atV; rw [hp])
      clear e9 e0 hst3 hf hov hok hso h hp
      · skip
        go_enter Tryz.func40, Tryz.ntmps40
        go_wp2_with (go_at_call 17; refine HFX.out.mono ?_; rintro e w1 ⟨rfl, hw1⟩; rw [hw1]; clear hw1)
        have h3 := HS3.out
        clear HS3 HFX
        obtain ⟨w3, hw3⟩ : ∃ z, z = World.setCell w ⟨rb, 2, none⟩ (.int .i64 3) := ⟨_, rfl⟩
        rw [← hw3] at h3 ⊢
        clear hw3
        have HCL := Lib.hid (fun w' (hp : Pu w3 w') => (h3.pu hp).h.cells)
        have hat := fun w' (hp : Pu w3 w') => atB (h3.pu hp).k s.user
        rw [HAV.out] at hat
        have HAT := Lib.hid hat
        clear hat
        apply region_pu (Φs := (Is _ :: Is _ :: Is _ :: Is _ :: Is _ :: Is _ :: Is _ :: Is _ :: Is _ :: Is _ :: [])) (hm := by kernel_rfl) (hE := by kernel_rfl) (hD := by kernel_rfl) (hsize := by kernel_rfl)
        case hop =>
          refine ⟨?_, ?_, ?_, ?_, ?_, ?_, ?_, ?_, ?_, ?_, trivial⟩
          · intro a' w' hs hp he
            have e0 := hs 0 (by kernel_rfl)
            try simp [Is, Region.binds] at he
            exact op_val rfl (wanted_none rfl) (by first | (go_simp; done) | (go_simp; rfl) | (simp [execOp, Act.eval, go_sem, *]; done) | (simp [execOp, Act.eval, go_sem, *]; rfl)) rfl (Pu.refl _)
          · intro a' w' hs hp he
            try simp [Is, Region.binds] at he
            exact op_val rfl (wanted_none rfl) (by first | (go_simp; done) | (go_simp; rfl) | (simp [execOp, Act.eval, go_sem, *]; done) | (simp [execOp, Act.eval, go_sem, *]; rfl)) rfl (Pu.refl _)
          · intro a' w' hs hp he
            try simp [Is, Region.binds] at he
            exact op_val rfl (wanted_none rfl) (by first | (go_simp; done) | (go_simp; rfl) | (simp [execOp, Act.eval, go_sem, *]; done) | (simp [execOp, Act.eval, go_sem, *]; rfl)) rfl (Pu.refl _)
          · intro a' w' hs hp he
            try simp [Is, Region.binds] at he
            obtain ⟨d0, d1, d2, d3, d4⟩ := HCL.out _ hp; exact op_val rfl (wanted_none rfl) (by first | (go_simp; done) | (go_simp; rfl)) rfl (Pu.refl _)
          · intro a' w' hs hp he
            have e0 := hs 0 (by kernel_rfl)
            try simp [Is, Region.binds] at he
            exact op_val rfl (wanted_none rfl) (by first | (go_simp; done) | (go_simp; rfl) | (simp [execOp, Act.eval, go_sem, *]; done) | (simp [execOp, Act.eval, go_sem, *]; rfl)) rfl (Pu.refl _)
          · intro a' w' hs hp he
            try simp [Is, Region.binds] at he
            exact op_val rfl (wanted_none rfl) (by first | (go_simp; done) | (go_simp; rfl) | (simp [execOp, Act.eval, go_sem, *]; done) | (simp [execOp, Act.eval, go_sem, *]; rfl)) rfl (Pu.refl _)
          · intro a' w' hs hp he
            try simp [Is, Region.binds] at he
            exact op_val rfl (wanted_none rfl) (by first | (go_simp; done) | (go_simp; rfl) | (simp [execOp, Act.eval, go_sem, *]; done) | (simp [execOp, Act.eval, go_sem, *]; rfl)) rfl (Pu.refl _)
          · intro a' w' hs hp he
            try simp [Is, Region.binds] at he
            obtain ⟨d0, d1, d2, d3, d4⟩ := HCL.out _ hp; exact op_val rfl (wanted_none rfl) (by first | (go_simp; done) | (go_simp; rfl)) rfl (Pu.refl _)
          · intro a' w' hs hp he
            try simp [Is, Region.binds] at he
            exact op_callP ((HAT.out _ hp).mono (by rintro e w' ⟨rfl, rfl⟩; exact ⟨rfl, Pu.refl _⟩)) rfl (wanted_none rfl) (by first | (go_simp; done) | (go_simp; rfl)) (fun _ => rfl)
          · intro a' w' hs hp he
            try simp [Is, Region.binds] at he
            exact op_val rfl (wanted_none rfl) (by first | (go_simp; done) | (go_simp; rfl) | (simp [execOp, Act.eval, go_sem, *]; done) | (simp [execOp, Act.eval, go_sem, *]; rfl)) rfl (Pu.refl _)
        case hend =>
          intro a' w' hdef hsz hs hp hall
          obtain ⟨r0, r1, r2, r3, r4, r5, r6, r7, r8, r9, -⟩ := hall
          have hA := agree_done (agree_step (agree_step (agree_step (agree_step (agree_step (agree_step (agree_step (agree_step (agree_step (agree_step (agree_init [63, 64, 65, 66, 67, 68, 69, 70, 71, 13] hsz hs (by kernel_rfl)) r0) r1) r2) r3) r4) r5) r6) r7) r8) r9)
          have ha := act_of hA hdef
          rw [ha]
          clear ha hA hs hsz hdef r0 r1 r2 r3 r4 r5 r6 r7 r8 r9 
          (try simp only [List.setIfInBounds_toArray])
          (try dsimp only [List.set_cons_zero, List.set_cons_succ])
          (try simp only [Exit.then])
          have h4 := h3.pu hp
          rename World => w4
          clear hp h3 HCL HAT
          simp only [Option.isSome_some, if_true]
          go_wp2_with fail
          apply region_pu (Φs := (Is _ :: Is _ :: Is _ :: Is _ :: Is _ :: Is _ :: Is _ :: Is _ :: Is _ :: Is _ :: Is _ :: Is _ :: Is _ :: Is _ :: [])) (hm := by kernel_rfl) (hE := by kernel_rfl) (hD := by kernel_rfl) (hsize := by kernel_rfl)
          case hop =>
            refine ⟨?_, ?_, ?_, ?_, ?_, ?_, ?_, ?_, ?_, ?_, ?_, ?_, ?_, ?_, trivial⟩
            · intro a' w' hs hp he
              have e13 := hs 13 (by kernel_rfl)
              try simp [Is, Region.binds] at he
              exact op_val rfl (wanted_none rfl) (by first | (go_simp; done) | (go_simp; rfl) | (simp [execOp, Act.eval, go_sem, *]; done) | (simp [execOp, Act.eval, go_sem, *]; rfl)) rfl (Pu.refl _)
            · intro a' w' hs hp he
              try simp [Is, Region.binds] at he
              exact op_val rfl (wanted_none rfl) (by first | (go_simp; done) | (go_simp; rfl) | (simp [execOp, Act.eval, go_sem, *]; done) | (simp [execOp, Act.eval, go_sem, *]; rfl)) rfl (Pu.refl _)
            · intro a' w' hs hp he
              try simp [Is, Region.binds] at he
              exact op_val rfl (wanted_none rfl) (by first | (go_simp; done) | (go_simp; rfl) | (simp [execOp, Act.eval, go_sem, *]; done) | (simp [execOp, Act.eval, go_sem, *]; rfl)) rfl (Pu.refl _)
            · intro a' w' hs hp he
              have e0 := hs 0 (by kernel_rfl)
              try simp [Is, Region.binds] at he
              first | exact op_skip rfl ((wanted_some rfl rfl (by first | (simp [he]; done) | (simp [he]; rfl))).trans rfl) rfl | exact op_val rfl ((wanted_some rfl rfl (by first | (simp [he]; done) | (simp [he]; rfl))).trans rfl) (by first | (go_simp; done) | (go_simp; rfl) | (simp [execOp, Act.eval, go_sem, *]; done) | (simp [execOp, Act.eval, go_sem, *]; rfl)) rfl (Pu.refl _)
            · intro a' w' hs hp he
              try simp [Is, Region.binds] at he
              first | exact op_skip rfl ((wanted_some rfl rfl (by first | (simp [he]; done) | (simp [he]; rfl))).trans rfl) rfl | exact op_val rfl ((wanted_some rfl rfl (by first | (simp [he]; done) | (simp [he]; rfl))).trans rfl) (by first | (go_simp; done) | (go_simp; rfl) | (simp [execOp, Act.eval, go_sem, *]; done) | (simp [execOp, Act.eval, go_sem, *]; rfl)) rfl (Pu.refl _)
            · intro a' w' hs hp he
              try simp [Is, Region.binds] at he
              first | exact op_skip rfl ((wanted_some rfl rfl (by first | (simp [he]; done) | (simp [he]; rfl))).trans rfl) rfl | exact op_val rfl ((wanted_some rfl rfl (by first | (simp [he]; done) | (simp [he]; rfl))).trans rfl) (by first | (go_simp; done) | (go_simp; rfl) | (simp [execOp, Act.eval, go_sem, *]; done) | (simp [execOp, Act.eval, go_sem, *]; rfl)) rfl (Pu.refl _)
            · intro a' w' hs hp he
              try simp [Is, Region.binds] at he
              first | exact op_skip rfl ((wanted_some rfl rfl (by first | (simp [he]; done) | (simp [he]; rfl))).trans rfl) rfl | exact op_val rfl ((wanted_some rfl rfl (by first | (simp [he]; done) | (simp [he]; rfl))).trans rfl) (by first | (go_simp; done) | (go_simp; rfl) | (simp [execOp, Act.eval, go_sem, *]; done) | (simp [execOp, Act.eval, go_sem, *]; rfl)) rfl (Pu.refl _)
            · intro a' w' hs hp he
              have e0 := hs 0 (by kernel_rfl)
              try simp [Is, Region.binds] at he
              first | exact op_skip rfl ((wanted_some rfl rfl (by first | (simp [he]; done) | (simp [he]; rfl))).trans rfl) rfl | exact op_val rfl ((wanted_some rfl rfl (by first | (simp [he]; done) | (simp [he]; rfl))).trans rfl) (by first | (go_simp; done) | (go_simp; rfl) | (simp [execOp, Act.eval, go_sem, *]; done) | (simp [execOp, Act.eval, go_sem, *]; rfl)) rfl (Pu.refl _)
            · intro a' w' hs hp he
              try simp [Is, Region.binds] at he
              first | exact op_skip rfl ((wanted_some rfl rfl (by first | (simp [he]; done) | (simp [he]; rfl))).trans rfl) rfl | exact op_val rfl ((wanted_some rfl rfl (by first | (simp [he]; done) | (simp [he]; rfl))).trans rfl) (by first | (go_simp; done) | (go_simp; rfl) | (simp [execOp, Act.eval, go_sem, *]; done) | (simp [execOp, Act.eval, go_sem, *]; rfl)) rfl (Pu.refl _)
            · intro a' w' hs hp he
              try simp [Is, Region.binds] at he
              first | exact op_skip rfl ((wanted_some rfl rfl (by first | (simp [he]; done) | (simp [he]; rfl))).trans rfl) rfl | exact op_val rfl ((wanted_some rfl rfl (by first | (simp [he]; done) | (simp [he]; rfl))).trans rfl) (by first | (go_simp; done) | (go_simp; rfl) | (simp [execOp, Act.eval, go_sem, *]; done) | (simp [execOp, Act.eval, go_sem, *]; rfl)) rfl (Pu.refl _)
            · intro a' w' hs hp he
              try simp [Is, Region.binds] at he
              first | exact op_skip rfl ((wanted_some rfl rfl (by first | (simp [he]; done) | (simp [he]; rfl))).trans rfl) rfl | exact op_val rfl ((wanted_some rfl rfl (by first | (simp [he]; done) | (simp [he]; rfl))).trans rfl) (by first | (go_simp; done) | (go_simp; rfl) | (simp [execOp, Act.eval, go_sem, *]; done) | (simp [execOp, Act.eval, go_sem, *]; rfl)) rfl (Pu.refl _)
            · intro a' w' hs hp he
              have e2 := hs 2 (by kernel_rfl)
              try simp [Is, Region.binds] at he
              first | exact op_skip rfl ((wanted_some rfl rfl (by first | (simp [he]; done) | (simp [he]; rfl))).trans rfl) rfl | exact op_val rfl ((wanted_some rfl rfl (by first | (simp [he]; done) | (simp [he]; rfl))).trans rfl) (by first | (go_simp; done) | (go_simp; rfl) | (simp [execOp, Act.eval, go_sem, *]; done) | (simp [execOp, Act.eval, go_sem, *]; rfl)) rfl (Pu.refl _)
            · intro a' w' hs hp he
              try simp [Is, Region.binds] at he
              first | exact op_skip rfl ((wanted_some rfl rfl (by first | (simp [he]; done) | (simp [he]; rfl))).trans rfl) rfl | exact op_val rfl ((wanted_some rfl rfl (by first | (simp [he]; done) | (simp [he]; rfl))).trans rfl) (by first | (go_simp; done) | (go_simp; rfl) | (simp [execOp, Act.eval, go_sem, *]; done) | (simp [execOp, Act.eval, go_sem, *]; rfl)) rfl (Pu.refl _)
            · intro a' w' hs hp he
              try simp [Is, Region.binds] at he
              exact op_val rfl (wanted_none rfl) (by first | (go_simp; done) | (go_simp; rfl) | (simp [execOp, Act.eval, go_sem, *]; done) | (simp [execOp, Act.eval, go_sem, *]; rfl)) rfl (Pu.refl _)
          case hend =>
            intro a' w' hdef hsz hs hp hall
            obtain ⟨r0, r1, r2, r3, r4, r5, r6, r7, r8, r9, r10, r11, r12, r13, -⟩ := hall
            have hA := agree_done (agree_step (agree_step (agree_step (agree_step (agree_step (agree_step (agree_step (agree_step (agree_step (agree_step (agree_step (agree_step (agree_step (agree_step (agree_init [72, 73, 74, 75, 76, 77, 78, 79, 80, 81, 82, 83, 84, 85] hsz hs (by kernel_rfl)) r0) r1) r2) r3) r4) r5) r6) r7) r8) r9) r10) r11) r12) r13)
            have ha := act_of hA hdef
            rw [ha]
            clear ha hA hs hsz hdef r0 r1 r2 r3 r4 r5 r6 r7 r8 r9 r10 r11 r12 r13 
            (try simp only [List.setIfInBounds_toArray])
            (try dsimp only [List.set_cons_zero, List.set_cons_succ])
            (try simp only [Exit.then])
            have h5 := h4.pu hp
            simp only [Option.isSome_some, if_true]
            go_wp2_with fail
            go_ret2
            exact ⟨rfl, ⟨h5.h, h5.k, h5.cg⟩⟩
    | some i =>
      obtain ⟨hi, hnm⟩ := posN_some hp
      have hsv : secV l s.user = some (l[i]).secret := by unfold secV; rw [hp]; simp [List.getElem?_eq_getElem hi]
      have hz : i < (nsL l).length := by rw [nsL_length]; exact hi
      have hsc := flatU_sec (nsL l) i hz
      rw [show ((nsL l)[i]'hz).2 = (l[i]).secret by simp [nsL]] at hsc
      have hsl := hl _ (List.getElem_mem hi)
      obtain ⟨sec, hsec⟩ : ∃ z, z = (l[i]).secret := ⟨_, rfl⟩
      rw [← hsec] at hsv hsc hsl
      have HSEC := Lib.hid hsc
      have HI := Lib.hid hi
      have HNE := Lib.hid (show l ≠ [] by intro e; rw [e] at hi; simp at hi)
      have HAV := Lib.hid (show atV l s.user = (i : Int) by unfold atV; rw [hp])
      have k0 : (0 : Int) ≤ i := by omega
      have k1 : (i : Int) < l.length := by omega
      have hlen := h.k.len
      by_cases hlk : lockV l s.user now = true
      · have e9 : gotR nonce l s b now = ⟨[], 6, { s with got := 2, bad := true }, l⟩ := by
          have ep : provR l { s with got := 2 } b now = ⟨[], 6, { s with got := 2 }, l⟩ := by
            unfold provR; rw [hf]; simp only; rw [hsv]; simp only; rw [if_pos hlk]
          rw [e0, ep]; rfl
        rw [e9, hst3]
        have HLK := Lib.hid hlk
        clear e9 e0 hst3 hf hov hok hso h hp hlk hsv hsec hsc hnm hz
        go_enter Tryz.func40, Tryz.ntmps40
        go_wp2_with (go_at_call 17; refine HFX.out.mono ?_; rintro e w1 ⟨rfl, hw1⟩; rw [hw1]; clear hw1)
        have h3 := HS3.out
        clear HS3 HFX
        obtain ⟨w3, hw3⟩ : ∃ z, z = World.setCell w ⟨rb, 2, none⟩ (.int .i64 3) := ⟨_, rfl⟩
        rw [← hw3] at h3 ⊢
        clear hw3
        have HCL := Lib.hid (fun w' (hp : Pu w3 w') => (h3.pu hp).h.cells)
        have hat := fun w' (hp : Pu w3 w') => atB (h3.pu hp).k s.user
        rw [HAV.out] at hat
        have HAT := Lib.hid hat
        clear hat
        apply region_pu (Φs := (Is _ :: Is _ :: Is _ :: Is _ :: Is _ :: Is _ :: Is _ :: Is _ :: Is _ :: Is _ :: [])) (hm := by kernel_rfl) (hE := by kernel_rfl) (hD := by kernel_rfl) (hsize := by kernel_rfl)
        case hop =>
          refine ⟨?_, ?_, ?_, ?_, ?_, ?_, ?_, ?_, ?_, ?_, trivial⟩
          · intro a' w' hs hp he
            have e0 := hs 0 (by kernel_rfl)
            try simp [Is, Region.binds] at he
            exact op_val rfl (wanted_none rfl) (by first | (go_simp; done) | (go_simp; rfl) | (simp [execOp, Act.eval, go_sem, *]; done) | (simp [execOp, Act.eval, go_sem, *]; rfl)) rfl (Pu.refl _)
          · intro a' w' hs hp he
            try simp [Is, Region.binds] at he
            exact op_val rfl (wanted_none rfl) (by first | (go_simp; done) | (go_simp; rfl) | (simp [execOp, Act.eval, go_sem, *]; done) | (simp [execOp, Act.eval, go_sem, *]; rfl)) rfl (Pu.refl _)
          · intro a' w' hs hp he
            try simp [Is, Region.binds] at he
            exact op_val rfl (wanted_none rfl) (by first | (go_simp; done) | (go_simp; rfl) | (simp [execOp, Act.eval, go_sem, *]; done) | (simp [execOp, Act.eval, go_sem, *]; rfl)) rfl (Pu.refl _)
          · intro a' w' hs hp he
            try simp [Is, Region.binds] at he
            obtain ⟨d0, d1, d2, d3, d4⟩ := HCL.out _ hp; exact op_val rfl (wanted_none rfl) (by first | (go_simp; done) | (go_simp; rfl)) rfl (Pu.refl _)
          · intro a' w' hs hp he
            have e0 := hs 0 (by kernel_rfl)
            try simp [Is, Region.binds] at he
            exact op_val rfl (wanted_none rfl) (by first | (go_simp; done) | (go_simp; rfl) | (simp [execOp, Act.eval, go_sem, *]; done) | (simp [execOp, Act.eval, go_sem, *]; rfl)) rfl (Pu.refl _)
          · intro a' w' hs hp he
            try simp [Is, Region.binds] at he
            exact op_val rfl (wanted_none rfl) (by first | (go_simp; done) | (go_simp; rfl) | (simp [execOp, Act.eval, go_sem, *]; done) | (simp [execOp, Act.eval, go_sem, *]; rfl)) rfl (Pu.refl _)
          · intro a' w' hs hp he
            try simp [Is, Region.binds] at he
            exact op_val rfl (wanted_none rfl) (by first | (go_simp; done) | (go_simp; rfl) | (simp [execOp, Act.eval, go_sem, *]; done) | (simp [execOp, Act.eval, go_sem, *]; rfl)) rfl (Pu.refl _)
          · intro a' w' hs hp he
            try simp [Is, Region.binds] at he
            obtain ⟨d0, d1, d2, d3, d4⟩ := HCL.out _ hp; exact op_val rfl (wanted_none rfl) (by first | (go_simp; done) | (go_simp; rfl)) rfl (Pu.refl _)
          · intro a' w' hs hp he
            try simp [Is, Region.binds] at he
            exact op_callP ((HAT.out _ hp).mono (by rintro e w' ⟨rfl, rfl⟩; exact ⟨rfl, Pu.refl _⟩)) rfl (wanted_none rfl) (by first | (go_simp; done) | (go_simp; rfl)) (fun _ => rfl)
          · intro a' w' hs hp he
            try simp [Is, Region.binds] at he
            exact op_val rfl (wanted_none rfl) (by first | (go_simp; done) | (go_simp; rfl) | (simp [execOp, Act.eval, go_sem, *]; done) | (simp [execOp, Act.eval, go_sem, *]; rfl)) rfl (Pu.refl _)
        case hend =>
          intro a' w' hdef hsz hs hp hall
          obtain ⟨r0, r1, r2, r3, r4, r5, r6, r7, r8, r9, -⟩ := hall
          have hA := agree_done (agree_step (agree_step (agree_step (agree_step (agree_step (agree_step (agree_step (agree_step (agree_step (agree_step (agree_init [63, 64, 65, 66, 67, 68, 69, 70, 71, 13] hsz hs (by kernel_rfl)) r0) r1) r2) r3) r4) r5) r6) r7) r8) r9)
          have ha := act_of hA hdef
          rw [ha]
          clear ha hA hs hsz hdef r0 r1 r2 r3 r4 r5 r6 r7 r8 r9 
          (try simp only [List.setIfInBounds_toArray])
          (try dsimp only [List.set_cons_zero, List.set_cons_succ])
          (try simp only [Exit.then])
          have h4 := h3.pu hp
          rename World => w4
          clear hp h3 HCL HAT
          simp only [Option.isSome_some, if_true]
          go_wp2_with fail
          have HCL := Lib.hid (fun w' (hp : Pu w4 w') => (h4.pu hp).h.cells)
          have hlk := fun w' (hp : Pu w4 w') => isLockedB (h4.pu hp).k s.user now
          rw [HLK.out] at hlk
          have HIL := Lib.hid hlk
          clear hlk
          apply region_pu (Φs := (Is _ :: Is _ :: Is _ :: Is _ :: Is _ :: Is _ :: Is _ :: Is _ :: Is _ :: Is _ :: Is _ :: Is _ :: Is _ :: Is _ :: [])) (hm := by kernel_rfl) (hE := by kernel_rfl) (hD := by kernel_rfl) (hsize := by kernel_rfl)
          case hop =>
            refine ⟨?_, ?_, ?_, ?_, ?_, ?_, ?_, ?_, ?_, ?_, ?_, ?_, ?_, ?_, trivial⟩
            · intro a' w' hs hp he
              have e13 := hs 13 (by kernel_rfl)
              try simp [Is, Region.binds] at he
              exact op_val rfl (wanted_none rfl) (by first | (go_simp; done) | (go_simp; rfl) | (simp [execOp, Act.eval, go_sem, *]; done) | (simp [execOp, Act.eval, go_sem, *]; rfl)) rfl (Pu.refl _)
            · intro a' w' hs hp he
              try simp [Is, Region.binds] at he
              exact op_val rfl (wanted_none rfl) (by first | (go_simp; done) | (go_simp; rfl) | (simp [execOp, Act.eval, go_sem, *]; done) | (simp [execOp, Act.eval, go_sem, *]; rfl)) rfl (Pu.refl _)
            · intro a' w' hs hp he
              try simp [Is, Region.binds] at he
              exact op_val rfl (wanted_none rfl) (by first | (go_simp; done) | (go_simp; rfl) | (simp [execOp, Act.eval, go_sem, *]; done) | (simp [execOp, Act.eval, go_sem, *]; rfl)) rfl (Pu.refl _)
            · intro a' w' hs hp he
              have e0 := hs 0 (by kernel_rfl)
              try simp [Is, Region.binds] at he
              first | exact op_skip rfl ((wanted_some rfl rfl (by first | (simp [he]; done) | (simp [he]; rfl))).trans rfl) rfl | exact op_val rfl ((wanted_some rfl rfl (by first | (simp [he]; done) | (simp [he]; rfl))).trans rfl) (by first | (go_simp; done) | (go_simp; rfl) | (simp [execOp, Act.eval, go_sem, *]; done) | (simp [execOp, Act.eval, go_sem, *]; rfl)) rfl (Pu.refl _)
            · intro a' w' hs hp he
              try simp [Is, Region.binds] at he
              first | exact op_skip rfl ((wanted_some rfl rfl (by first | (simp [he]; done) | (simp [he]; rfl))).trans rfl) rfl | exact op_val rfl ((wanted_some rfl rfl (by first | (simp [he]; done) | (simp [he]; rfl))).trans rfl) (by first | (go_simp; done) | (go_simp; rfl) | (simp [execOp, Act.eval, go_sem, *]; done) | (simp [execOp, Act.eval, go_sem, *]; rfl)) rfl (Pu.refl _)
            · intro a' w' hs hp he
              try simp [Is, Region.binds] at he
              first | exact op_skip rfl ((wanted_some rfl rfl (by first | (simp [he]; done) | (simp [he]; rfl))).trans rfl) rfl | exact op_val rfl ((wanted_some rfl rfl (by first | (simp [he]; done) | (simp [he]; rfl))).trans rfl) (by first | (go_simp; done) | (go_simp; rfl) | (simp [execOp, Act.eval, go_sem, *]; done) | (simp [execOp, Act.eval, go_sem, *]; rfl)) rfl (Pu.refl _)
            · intro a' w' hs hp he
              try simp [Is, Region.binds] at he
              obtain ⟨d0, d1, d2, d3, d4⟩ := HCL.out _ hp; exact op_val rfl ((wanted_some rfl rfl (by first | (simp [he]; done) | (simp [he]; rfl))).trans rfl) (by first | (go_simp; done) | (go_simp; rfl)) rfl (Pu.refl _)
            · intro a' w' hs hp he
              have e0 := hs 0 (by kernel_rfl)
              try simp [Is, Region.binds] at he
              first | exact op_skip rfl ((wanted_some rfl rfl (by first | (simp [he]; done) | (simp [he]; rfl))).trans rfl) rfl | exact op_val rfl ((wanted_some rfl rfl (by first | (simp [he]; done) | (simp [he]; rfl))).trans rfl) (by first | (go_simp; done) | (go_simp; rfl) | (simp [execOp, Act.eval, go_sem, *]; done) | (simp [execOp, Act.eval, go_sem, *]; rfl)) rfl (Pu.refl _)
            · intro a' w' hs hp he
              try simp [Is, Region.binds] at he
              first | exact op_skip rfl ((wanted_some rfl rfl (by first | (simp [he]; done) | (simp [he]; rfl))).trans rfl) rfl | exact op_val rfl ((wanted_some rfl rfl (by first | (simp [he]; done) | (simp [he]; rfl))).trans rfl) (by first | (go_simp; done) | (go_simp; rfl) | (simp [execOp, Act.eval, go_sem, *]; done) | (simp [execOp, Act.eval, go_sem, *]; rfl)) rfl (Pu.refl _)
            · intro a' w' hs hp he
              try simp [Is, Region.binds] at he
              first | exact op_skip rfl ((wanted_some rfl rfl (by first | (simp [he]; done) | (simp [he]; rfl))).trans rfl) rfl | exact op_val rfl ((wanted_some rfl rfl (by first | (simp [he]; done) | (simp [he]; rfl))).trans rfl) (by first | (go_simp; done) | (go_simp; rfl) | (simp [execOp, Act.eval, go_sem, *]; done) | (simp [execOp, Act.eval, go_sem, *]; rfl)) rfl (Pu.refl _)
            · intro a' w' hs hp he
              try simp [Is, Region.binds] at he
              obtain ⟨d0, d1, d2, d3, d4⟩ := HCL.out _ hp; exact op_val rfl ((wanted_some rfl rfl (by first | (simp [he]; done) | (simp [he]; rfl))).trans rfl) (by first | (go_simp; done) | (go_simp; rfl)) rfl (Pu.refl _)
            · intro a' w' hs hp he
              have e2 := hs 2 (by kernel_rfl)
              try simp [Is, Region.binds] at he
              first | exact op_skip rfl ((wanted_some rfl rfl (by first | (simp [he]; done) | (simp [he]; rfl))).trans rfl) rfl | exact op_val rfl ((wanted_some rfl rfl (by first | (simp [he]; done) | (simp [he]; rfl))).trans rfl) (by first | (go_simp; done) | (go_simp; rfl) | (simp [execOp, Act.eval, go_sem, *]; done) | (simp [execOp, Act.eval, go_sem, *]; rfl)) rfl (Pu.refl _)
            · intro a' w' hs hp he
              try simp [Is, Region.binds] at he
              exact op_callP ((HIL.out _ hp).mono (by rintro e w' ⟨rfl, rfl⟩; exact ⟨rfl, Pu.refl _⟩)) rfl ((wanted_some rfl rfl (by first | (simp [he]; done) | (simp [he]; rfl))).trans rfl) (by first | (go_simp; done) | (go_simp; rfl)) (fun _ => rfl)
            · intro a' w' hs hp he
              try simp [Is, Region.binds] at he
              exact op_val rfl (wanted_none rfl) (by first | (go_simp; done) | (go_simp; rfl) | (simp [execOp, Act.eval, go_sem, *]; done) | (simp [execOp, Act.eval, go_sem, *]; rfl)) rfl (Pu.refl _)
          case hend =>
            intro a' w' hdef hsz hs hp hall
            obtain ⟨r0, r1, r2, r3, r4, r5, r6, r7, r8, r9, r10, r11, r12, r13, -⟩ := hall
            have hA := agree_done (agree_step (agree_step (agree_step (agree_step (agree_step (agree_step (agree_step (agree_step (agree_step (agree_step (agree_step (agree_step (agree_step (agree_step (agree_init [72, 73, 74, 75, 76, 77, 78, 79, 80, 81, 82, 83, 84, 85] hsz hs (by kernel_rfl)) r0) r1) r2) r3) r4) r5) r6) r7) r8) r9) r10) r11) r12) r13)
            have ha := act_of hA hdef
            rw [ha]
            clear ha hA hs hsz hdef r0 r1 r2 r3 r4 r5 r6 r7 r8 r9 r10 r11 r12 r13 
            (try simp only [List.setIfInBounds_toArray])
            (try dsimp only [List.set_cons_zero, List.set_cons_succ])
            (try simp only [Exit.then])
            have h5 := h4.pu hp
            rename World => w5
            clear hp h4 HCL HIL
            simp only [Option.isSome_some, if_true]
            go_wp2_with fail
            go_ret2
            exact ⟨rfl, ⟨h5.h, h5.k, h5.cg⟩⟩
      have hlk0 : lockV l s.user now = false := by cases h9 : lockV l s.user now with | false => rfl | true => exact absurd h9 hlk
      have hPr := fun w => refProof sec s.papers (by omega) (by omega) w
      have hprl := proofL_length sec s.papers
      have HLK := Lib.hid hlk0
      by_cases hm : m = proofL sec s.papers
      · have e9 : gotR nonce l s b now = ⟨4 :: finishL sec s.papers, 0, { s with got := 2, bad := false, done := true, up := upL sec s.papers, down := downL sec s.papers }, modN l s.user goodS⟩ := by
          have ep : provR l { s with got := 2 } b now = ⟨4 :: finishL sec s.papers, 0, { s with got := 2, done := true, up := upL sec s.papers, down := downL sec s.papers }, modN l s.user goodS⟩ := by
            unfold provR; rw [hf]; simp only; rw [hsv]; simp only; rw [if_neg hlk, if_pos hm]
          rw [e0, ep]; rfl
        rw [e9]
        have hst2 : stepOf { s with got := 2, bad := false, done := true, up := upL sec s.papers, down := downL sec s.papers } = 2 := rfl
        rw [hst2]
        have hKe : ∀ w, Calls Tryz.prog 23 #[S sec, S s.papers] w fun e w' => e = .returned (.agg #[S (upL sec s.papers), S (downL sec s.papers)]) ∧ Pu w w' := fun w => refKeys sec s.papers (by omega) (by omega) w
        have hFi := fun w => refFinish sec s.papers (by omega) (by omega) w
        have hfil := finishL_length sec s.papers
        obtain ⟨fi, hfi⟩ : ∃ z, z = finishL sec s.papers := ⟨_, rfl⟩
        rw [← hfi] at hFi hfil ⊢
        have hLe : ∀ w, Calls Tryz.prog 44 #[.int .i64 4, S fi] w fun e w' => e = .returned (S (4 :: fi)) ∧ Pu w w' := fun w => letterW 4 (by decide) fi (by omega) w
        obtain ⟨up, hup⟩ : ∃ x, x = upL sec s.papers := ⟨_, rfl⟩
        obtain ⟨dn, hdn2⟩ : ∃ x, x = downL sec s.papers := ⟨_, rfl⟩
        rw [← hup, ← hdn2] at hKe ⊢
        rw [← hm] at hPr
        have HPR := Lib.hid hPr
        have HKE := Lib.hid hKe
        have HFI := Lib.hid hFi
        have HLE := Lib.hid hLe
        clear e9 e0 hst3 hst2 hf hov hok hso h hp hlk hlk0 hsv hsec hsc hnm hz hPr hprl hm hKe hFi hLe hfi hup hdn2
        go_enter Tryz.func40, Tryz.ntmps40
        go_wp2_with (go_at_call 17; refine HFX.out.mono ?_; rintro e w1 ⟨rfl, hw1⟩; rw [hw1]; clear hw1)
        have h3 := HS3.out
        clear HS3 HFX
        obtain ⟨w3, hw3⟩ : ∃ z, z = World.setCell w ⟨rb, 2, none⟩ (.int .i64 3) := ⟨_, rfl⟩
        rw [← hw3] at h3 ⊢
        clear hw3
        have HCL := Lib.hid (fun w' (hp : Pu w3 w') => (h3.pu hp).h.cells)
        have hat := fun w' (hp : Pu w3 w') => atB (h3.pu hp).k s.user
        rw [HAV.out] at hat
        have HAT := Lib.hid hat
        clear hat
        apply region_pu (Φs := (Is _ :: Is _ :: Is _ :: Is _ :: Is _ :: Is _ :: Is _ :: Is _ :: Is _ :: Is _ :: [])) (hm := by kernel_rfl) (hE := by kernel_rfl) (hD := by kernel_rfl) (hsize := by kernel_rfl)
        case hop =>
          refine ⟨?_, ?_, ?_, ?_, ?_, ?_, ?_, ?_, ?_, ?_, trivial⟩
          · intro a' w' hs hp he
            have e0 := hs 0 (by kernel_rfl)
            try simp [Is, Region.binds] at he
            exact op_val rfl (wanted_none rfl) (by first | (go_simp; done) | (go_simp; rfl) | (simp [execOp, Act.eval, go_sem, *]; done) | (simp [execOp, Act.eval, go_sem, *]; rfl)) rfl (Pu.refl _)
          · intro a' w' hs hp he
            try simp [Is, Region.binds] at he
            exact op_val rfl (wanted_none rfl) (by first | (go_simp; done) | (go_simp; rfl) | (simp [execOp, Act.eval, go_sem, *]; done) | (simp [execOp, Act.eval, go_sem, *]; rfl)) rfl (Pu.refl _)
          · intro a' w' hs hp he
            try simp [Is, Region.binds] at he
            exact op_val rfl (wanted_none rfl) (by first | (go_simp; done) | (go_simp; rfl) | (simp [execOp, Act.eval, go_sem, *]; done) | (simp [execOp, Act.eval, go_sem, *]; rfl)) rfl (Pu.refl _)
          · intro a' w' hs hp he
            try simp [Is, Region.binds] at he
            obtain ⟨d0, d1, d2, d3, d4⟩ := HCL.out _ hp; exact op_val rfl (wanted_none rfl) (by first | (go_simp; done) | (go_simp; rfl)) rfl (Pu.refl _)
          · intro a' w' hs hp he
            have e0 := hs 0 (by kernel_rfl)
            try simp [Is, Region.binds] at he
            exact op_val rfl (wanted_none rfl) (by first | (go_simp; done) | (go_simp; rfl) | (simp [execOp, Act.eval, go_sem, *]; done) | (simp [execOp, Act.eval, go_sem, *]; rfl)) rfl (Pu.refl _)
          · intro a' w' hs hp he
            try simp [Is, Region.binds] at he
            exact op_val rfl (wanted_none rfl) (by first | (go_simp; done) | (go_simp; rfl) | (simp [execOp, Act.eval, go_sem, *]; done) | (simp [execOp, Act.eval, go_sem, *]; rfl)) rfl (Pu.refl _)
          · intro a' w' hs hp he
            try simp [Is, Region.binds] at he
            exact op_val rfl (wanted_none rfl) (by first | (go_simp; done) | (go_simp; rfl) | (simp [execOp, Act.eval, go_sem, *]; done) | (simp [execOp, Act.eval, go_sem, *]; rfl)) rfl (Pu.refl _)
          · intro a' w' hs hp he
            try simp [Is, Region.binds] at he
            obtain ⟨d0, d1, d2, d3, d4⟩ := HCL.out _ hp; exact op_val rfl (wanted_none rfl) (by first | (go_simp; done) | (go_simp; rfl)) rfl (Pu.refl _)
          · intro a' w' hs hp he
            try simp [Is, Region.binds] at he
            exact op_callP ((HAT.out _ hp).mono (by rintro e w' ⟨rfl, rfl⟩; exact ⟨rfl, Pu.refl _⟩)) rfl (wanted_none rfl) (by first | (go_simp; done) | (go_simp; rfl)) (fun _ => rfl)
          · intro a' w' hs hp he
            try simp [Is, Region.binds] at he
            exact op_val rfl (wanted_none rfl) (by first | (go_simp; done) | (go_simp; rfl) | (simp [execOp, Act.eval, go_sem, *]; done) | (simp [execOp, Act.eval, go_sem, *]; rfl)) rfl (Pu.refl _)
        case hend =>
          intro a' w' hdef hsz hs hp hall
          obtain ⟨r0, r1, r2, r3, r4, r5, r6, r7, r8, r9, -⟩ := hall
          have hA := agree_done (agree_step (agree_step (agree_step (agree_step (agree_step (agree_step (agree_step (agree_step (agree_step (agree_step (agree_init [63, 64, 65, 66, 67, 68, 69, 70, 71, 13] hsz hs (by kernel_rfl)) r0) r1) r2) r3) r4) r5) r6) r7) r8) r9)
          have ha := act_of hA hdef
          rw [ha]
          clear ha hA hs hsz hdef r0 r1 r2 r3 r4 r5 r6 r7 r8 r9 
          (try simp only [List.setIfInBounds_toArray])
          (try dsimp only [List.set_cons_zero, List.set_cons_succ])
          (try simp only [Exit.then])
          have h4 := h3.pu hp
          rename World => w4
          clear hp h3 HCL HAT
          simp only [Option.isSome_some, if_true]
          go_wp2_with fail
          have HCL := Lib.hid (fun w' (hp : Pu w4 w') => (h4.pu hp).h.cells)
          have hlk := fun w' (hp : Pu w4 w') => isLockedB (h4.pu hp).k s.user now
          rw [HLK.out] at hlk
          have HIL := Lib.hid hlk
          clear hlk
          apply region_pu (Φs := (Is _ :: Is _ :: Is _ :: Is _ :: Is _ :: Is _ :: Is _ :: Is _ :: Is _ :: Is _ :: Is _ :: Is _ :: Is _ :: Is _ :: [])) (hm := by kernel_rfl) (hE := by kernel_rfl) (hD := by kernel_rfl) (hsize := by kernel_rfl)
          case hop =>
            refine ⟨?_, ?_, ?_, ?_, ?_, ?_, ?_, ?_, ?_, ?_, ?_, ?_, ?_, ?_, trivial⟩
            · intro a' w' hs hp he
              have e13 := hs 13 (by kernel_rfl)
              try simp [Is, Region.binds] at he
              exact op_val rfl (wanted_none rfl) (by first | (go_simp; done) | (go_simp; rfl) | (simp [execOp, Act.eval, go_sem, *]; done) | (simp [execOp, Act.eval, go_sem, *]; rfl)) rfl (Pu.refl _)
            · intro a' w' hs hp he
              try simp [Is, Region.binds] at he
              exact op_val rfl (wanted_none rfl) (by first | (go_simp; done) | (go_simp; rfl) | (simp [execOp, Act.eval, go_sem, *]; done) | (simp [execOp, Act.eval, go_sem, *]; rfl)) rfl (Pu.refl _)
            · intro a' w' hs hp he
              try simp [Is, Region.binds] at he
              exact op_val rfl (wanted_none rfl) (by first | (go_simp; done) | (go_simp; rfl) | (simp [execOp, Act.eval, go_sem, *]; done) | (simp [execOp, Act.eval, go_sem, *]; rfl)) rfl (Pu.refl _)
            · intro a' w' hs hp he
              have e0 := hs 0 (by kernel_rfl)
              try simp [Is, Region.binds] at he
              first | exact op_skip rfl ((wanted_some rfl rfl (by first | (simp [he]; done) | (simp [he]; rfl))).trans rfl) rfl | exact op_val rfl ((wanted_some rfl rfl (by first | (simp [he]; done) | (simp [he]; rfl))).trans rfl) (by first | (go_simp; done) | (go_simp; rfl) | (simp [execOp, Act.eval, go_sem, *]; done) | (simp [execOp, Act.eval, go_sem, *]; rfl)) rfl (Pu.refl _)
            · intro a' w' hs hp he
              try simp [Is, Region.binds] at he
              first | exact op_skip rfl ((wanted_some rfl rfl (by first | (simp [he]; done) | (simp [he]; rfl))).trans rfl) rfl | exact op_val rfl ((wanted_some rfl rfl (by first | (simp [he]; done) | (simp [he]; rfl))).trans rfl) (by first | (go_simp; done) | (go_simp; rfl) | (simp [execOp, Act.eval, go_sem, *]; done) | (simp [execOp, Act.eval, go_sem, *]; rfl)) rfl (Pu.refl _)
            · intro a' w' hs hp he
              try simp [Is, Region.binds] at he
              first | exact op_skip rfl ((wanted_some rfl rfl (by first | (simp [he]; done) | (simp [he]; rfl))).trans rfl) rfl | exact op_val rfl ((wanted_some rfl rfl (by first | (simp [he]; done) | (simp [he]; rfl))).trans rfl) (by first | (go_simp; done) | (go_simp; rfl) | (simp [execOp, Act.eval, go_sem, *]; done) | (simp [execOp, Act.eval, go_sem, *]; rfl)) rfl (Pu.refl _)
            · intro a' w' hs hp he
              try simp [Is, Region.binds] at he
              obtain ⟨d0, d1, d2, d3, d4⟩ := HCL.out _ hp; exact op_val rfl ((wanted_some rfl rfl (by first | (simp [he]; done) | (simp [he]; rfl))).trans rfl) (by first | (go_simp; done) | (go_simp; rfl)) rfl (Pu.refl _)
            · intro a' w' hs hp he
              have e0 := hs 0 (by kernel_rfl)
              try simp [Is, Region.binds] at he
              first | exact op_skip rfl ((wanted_some rfl rfl (by first | (simp [he]; done) | (simp [he]; rfl))).trans rfl) rfl | exact op_val rfl ((wanted_some rfl rfl (by first | (simp [he]; done) | (simp [he]; rfl))).trans rfl) (by first | (go_simp; done) | (go_simp; rfl) | (simp [execOp, Act.eval, go_sem, *]; done) | (simp [execOp, Act.eval, go_sem, *]; rfl)) rfl (Pu.refl _)
            · intro a' w' hs hp he
              try simp [Is, Region.binds] at he
              first | exact op_skip rfl ((wanted_some rfl rfl (by first | (simp [he]; done) | (simp [he]; rfl))).trans rfl) rfl | exact op_val rfl ((wanted_some rfl rfl (by first | (simp [he]; done) | (simp [he]; rfl))).trans rfl) (by first | (go_simp; done) | (go_simp; rfl) | (simp [execOp, Act.eval, go_sem, *]; done) | (simp [execOp, Act.eval, go_sem, *]; rfl)) rfl (Pu.refl _)
            · intro a' w' hs hp he
              try simp [Is, Region.binds] at he
              first | exact op_skip rfl ((wanted_some rfl rfl (by first | (simp [he]; done) | (simp [he]; rfl))).trans rfl) rfl | exact op_val rfl ((wanted_some rfl rfl (by first | (simp [he]; done) | (simp [he]; rfl))).trans rfl) (by first | (go_simp; done) | (go_simp; rfl) | (simp [execOp, Act.eval, go_sem, *]; done) | (simp [execOp, Act.eval, go_sem, *]; rfl)) rfl (Pu.refl _)
            · intro a' w' hs hp he
              try simp [Is, Region.binds] at he
              obtain ⟨d0, d1, d2, d3, d4⟩ := HCL.out _ hp; exact op_val rfl ((wanted_some rfl rfl (by first | (simp [he]; done) | (simp [he]; rfl))).trans rfl) (by first | (go_simp; done) | (go_simp; rfl)) rfl (Pu.refl _)
            · intro a' w' hs hp he
              have e2 := hs 2 (by kernel_rfl)
              try simp [Is, Region.binds] at he
              first | exact op_skip rfl ((wanted_some rfl rfl (by first | (simp [he]; done) | (simp [he]; rfl))).trans rfl) rfl | exact op_val rfl ((wanted_some rfl rfl (by first | (simp [he]; done) | (simp [he]; rfl))).trans rfl) (by first | (go_simp; done) | (go_simp; rfl) | (simp [execOp, Act.eval, go_sem, *]; done) | (simp [execOp, Act.eval, go_sem, *]; rfl)) rfl (Pu.refl _)
            · intro a' w' hs hp he
              try simp [Is, Region.binds] at he
              exact op_callP ((HIL.out _ hp).mono (by rintro e w' ⟨rfl, rfl⟩; exact ⟨rfl, Pu.refl _⟩)) rfl ((wanted_some rfl rfl (by first | (simp [he]; done) | (simp [he]; rfl))).trans rfl) (by first | (go_simp; done) | (go_simp; rfl)) (fun _ => rfl)
            · intro a' w' hs hp he
              try simp [Is, Region.binds] at he
              exact op_val rfl (wanted_none rfl) (by first | (go_simp; done) | (go_simp; rfl) | (simp [execOp, Act.eval, go_sem, *]; done) | (simp [execOp, Act.eval, go_sem, *]; rfl)) rfl (Pu.refl _)
          case hend =>
            intro a' w' hdef hsz hs hp hall
            obtain ⟨r0, r1, r2, r3, r4, r5, r6, r7, r8, r9, r10, r11, r12, r13, -⟩ := hall
            have hA := agree_done (agree_step (agree_step (agree_step (agree_step (agree_step (agree_step (agree_step (agree_step (agree_step (agree_step (agree_step (agree_step (agree_step (agree_step (agree_init [72, 73, 74, 75, 76, 77, 78, 79, 80, 81, 82, 83, 84, 85] hsz hs (by kernel_rfl)) r0) r1) r2) r3) r4) r5) r6) r7) r8) r9) r10) r11) r12) r13)
            have ha := act_of hA hdef
            rw [ha]
            clear ha hA hs hsz hdef r0 r1 r2 r3 r4 r5 r6 r7 r8 r9 r10 r11 r12 r13 
            (try simp only [List.setIfInBounds_toArray])
            (try dsimp only [List.set_cons_zero, List.set_cons_succ])
            (try simp only [Exit.then])
            have h5 := h4.pu hp
            rename World => w5
            clear hp h4 HCL HIL
            simp only [Option.isSome_some, if_true]
            obtain ⟨d0, d1, d2, d3, d4⟩ := h5.h.cells
            obtain ⟨b0, b1, b2, b3⟩ := h5.k.cells
            obtain ⟨haL, hrL⟩ := h5.k.usr HNE.out
            rw [haL] at b0
            have hcs := hrL.cell' (i * 2 + 1) (by rw [flatU_length, nsL_length]; have := HI.out; omega)
            rw [HSEC.out] at hcs
            go_wp2_with (go_at_call 19; refine (HPR.out _).mono ?_; rintro e w6 ⟨rfl, hp6⟩)
            have h6 := h5.pu hp6
            clear h5 hp6 d0 d1 d2 d3 d4 b0 b1 b2 b3 haL hrL hcs
            have HC6 := Lib.hid (fun w' (hp : Pu w6 w') => (h6.pu hp).h.cells)
            apply region_writer (g := w6.heap.size) (n := 8) (hn := by kernel_rfl) (hlast := rfl) (hU := by kernel_rfl) (Φ1 := ([])) (Φm := Is _) (Φ2 := (Is _ :: Is _ :: Is _ :: Is _ :: Is _ :: Is _ :: Is _ :: [])) (hm := by kernel_rfl) (hE := by kernel_rfl) (hD := by kernel_rfl) (hsize := by kernel_rfl)
            case hop =>
              refine ⟨?_, ?_, ?_, ?_, ?_, ?_, ?_, ?_, trivial⟩
              · intro a' w' hs hp he
                have hp : Pu _ w' := hp
                have e0 := hs 0 (by kernel_rfl)
                try simp [Is, Region.binds] at he
                exact op_valB rfl (wanted_none rfl) (by first | (go_simp; done) | (go_simp; rfl) | (simp [execOp, Act.eval, go_sem, *]; done) | (simp [execOp, Act.eval, go_sem, *]; rfl)) rfl (But.pu (Pu.refl _))
              · intro a' w' hs hp he
                have hp : But w6.heap.size _ w' := hp
                replace hp := But.toPu hp (Nat.le_refl _)
                try simp [Is, Region.binds] at he
                exact op_val rfl (wanted_none rfl) (by first | (go_simp; done) | (go_simp; rfl) | (simp [execOp, Act.eval, go_sem, *]; done) | (simp [execOp, Act.eval, go_sem, *]; rfl)) rfl (Pu.refl _)
              · intro a' w' hs hp he
                have hp : But w6.heap.size _ w' := hp
                replace hp := But.toPu hp (Nat.le_refl _)
                try simp [Is, Region.binds] at he
                exact op_val rfl (wanted_none rfl) (by first | (go_simp; done) | (go_simp; rfl) | (simp [execOp, Act.eval, go_sem, *]; done) | (simp [execOp, Act.eval, go_sem, *]; rfl)) rfl (Pu.refl _)
              · intro a' w' hs hp he
                have hp : But w6.heap.size _ w' := hp
                replace hp := But.toPu hp (Nat.le_refl _)
                try simp [Is, Region.binds] at he
                obtain ⟨d0, d1, d2, d3, d4⟩ := HC6.out _ hp; exact op_val rfl (wanted_none rfl) (by first | (go_simp; done) | (go_simp; rfl)) rfl (Pu.refl _)
              · intro a' w' hs hp he
                have hp : But w6.heap.size _ w' := hp
                replace hp := But.toPu hp (Nat.le_refl _)
                have e0 := hs 0 (by kernel_rfl)
                try simp [Is, Region.binds] at he
                exact op_val rfl (wanted_none rfl) (by first | (go_simp; done) | (go_simp; rfl) | (simp [execOp, Act.eval, go_sem, *]; done) | (simp [execOp, Act.eval, go_sem, *]; rfl)) rfl (Pu.refl _)
              · intro a' w' hs hp he
                have hp : But w6.heap.size _ w' := hp
                replace hp := But.toPu hp (Nat.le_refl _)
                try simp [Is, Region.binds] at he
                exact op_val rfl (wanted_none rfl) (by first | (go_simp; done) | (go_simp; rfl) | (simp [execOp, Act.eval, go_sem, *]; done) | (simp [execOp, Act.eval, go_sem, *]; rfl)) rfl (Pu.refl _)
              · intro a' w' hs hp he
                have hp : But w6.heap.size _ w' := hp
                replace hp := But.toPu hp (Nat.le_refl _)
                try simp [Is, Region.binds] at he
                exact op_val rfl (wanted_none rfl) (by first | (go_simp; done) | (go_simp; rfl) | (simp [execOp, Act.eval, go_sem, *]; done) | (simp [execOp, Act.eval, go_sem, *]; rfl)) rfl (Pu.refl _)
              · intro a' w' hs hp he
                have hp : But w6.heap.size _ w' := hp
                replace hp := But.toPu hp (Nat.le_refl _)
                try simp [Is, Region.binds] at he
                obtain ⟨d0, d1, d2, d3, d4⟩ := HC6.out _ hp; exact op_val rfl (wanted_none rfl) (by first | (go_simp; done) | (go_simp; rfl)) rfl (Pu.refl _)
            case hend =>
              intro a' w' hdef hsz hs hp hall
              replace hp := But.toPu hp (Nat.le_refl _)
              obtain ⟨r0, r1, r2, r3, r4, r5, r6, r7, -⟩ := hall
              have hA := agree_done (agree_step (agree_step (agree_step (agree_step (agree_step (agree_step (agree_step (agree_step (agree_initL [115, 116, 117, 118, 119, 120, 121, 122] hsz hs (by kernel_rfl)) r0) r1) r2) r3) r4) r5) r6) r7)
              have ha := act_of hA hdef
              rw [ha]
              clear ha hA hs hsz hdef r0 r1 r2 r3 r4 r5 r6 r7 
              (try simp only [List.setIfInBounds_toArray])
              (try dsimp only [List.set_cons_zero, List.set_cons_succ])
              (try simp only [Exit.then])
              refine op_callK rfl (wanted_none rfl) (by first | (go_simp; done) | (go_simp; rfl)) ((goodB (h6.pu hp).k s.user).mono ?_); rintro e w7 ⟨rfl, hk7, hc7⟩; refine ⟨_, rfl, ?_⟩
              (try simp only [Exit.inBlock, Exit.then])
              have h7 := (h6.pu hp).book hk7 hc7
              clear hk7 hc7 hp HC6 h6
              obtain ⟨d0, d1, d2, d3, d4⟩ := h7.h.cells
              go_wp2_with (first
                | (go_at_call 23; refine (HKE.out _).mono ?_; rintro e w8 ⟨rfl, hp8⟩
                   have h8 := h7.pu hp8
                   clear d0 d1 d2 d3 d4
                   obtain ⟨d0, d1, d2, d3, d4⟩ := h8.h.cells
                   have d9 := h8.h.fr 2 (by decide)
                   have h9 : RB w0 (w8.setCell ⟨rb, 2, none⟩ (.int .i64 2)) rb bb x nonce 2 s _ := h8.step 2)
                | (refine wpList_store_part rfl 44 (.tmp 135) (.tmp 131) rfl rb 5 [S up, S dn] (by rfl) (by rfl) (show Row _ rb 75 (refC bb nonce 2 s) from h9.h) hi4 (by simp [refC]) (by simp [Value.oneCell']) ?_; intro w10 hr10 hch10
                   have h10 := h9.host (st' := 2) (s' := { s with up := up, down := dn }) (by simpa [splice, refC, RefRow] using hr10) hch10.but
                   clear d0 d1 d2 d3 d4 d9
                   obtain ⟨d0, d1, d2, d3, d4⟩ := h10.h.cells)
                | (go_at_call 21; refine (HFI.out _).mono ?_; rintro e w11 ⟨rfl, hp11⟩)
                | (go_at_call 44; refine (HLE.out _).mono ?_; rintro e w12 ⟨rfl, hp12⟩))
              go_ret2
              have h12 := (h10.pu hp11).pu hp12
              exact ⟨rfl, ⟨h12.h, h12.k, h12.cg⟩⟩
      · have e9 : gotR nonce l s b now = ⟨[], 3, { s with got := 2, bad := true }, modN l s.user (failS now)⟩ := by
          have ep : provR l { s with got := 2 } b now = ⟨[], 3, { s with got := 2 }, modN l s.user (failS now)⟩ := by
            unfold provR; rw [hf]; simp only; rw [hsv]; simp only; rw [if_neg hlk, if_neg hm]
          rw [e0, ep]; rfl
        rw [e9, hst3]
        obtain ⟨pr, hpr⟩ : ∃ z, z = proofL sec s.papers := ⟨_, rfl⟩
        rw [← hpr] at hPr hprl hm
        have hb1 : (m == pr) = false := by simpa using hm
        have hb2 : ¬ bs m = bs pr := fun e => hm (bs_inj e)
        have HPR := Lib.hid hPr
        clear e9 e0 hst3 hf hov hok hso h hp hlk hlk0 hsv hsec hsc hnm hz hPr hpr hm
        go_enter Tryz.func40, Tryz.ntmps40
        go_wp2_with (go_at_call 17; refine HFX.out.mono ?_; rintro e w1 ⟨rfl, hw1⟩; rw [hw1]; clear hw1)
        have h3 := HS3.out
        clear HS3 HFX
        obtain ⟨w3, hw3⟩ : ∃ z, z = World.setCell w ⟨rb, 2, none⟩ (.int .i64 3) := ⟨_, rfl⟩
        rw [← hw3] at h3 ⊢
        clear hw3
        have HCL := Lib.hid (fun w' (hp : Pu w3 w') => (h3.pu hp).h.cells)
        have hat := fun w' (hp : Pu w3 w') => atB (h3.pu hp).k s.user
        rw [HAV.out] at hat
        have HAT := Lib.hid hat
        clear hat
        apply region_pu (Φs := (Is _ :: Is _ :: Is _ :: Is _ :: Is _ :: Is _ :: Is _ :: Is _ :: Is _ :: Is _ :: [])) (hm := by kernel_rfl) (hE := by kernel_rfl) (hD := by kernel_rfl) (hsize := by kernel_rfl)
        case hop =>
          refine ⟨?_, ?_, ?_, ?_, ?_, ?_, ?_, ?_, ?_, ?_, trivial⟩
          · intro a' w' hs hp he
            have e0 := hs 0 (by kernel_rfl)
            try simp [Is, Region.binds] at he
            exact op_val rfl (wanted_none rfl) (by first | (go_simp; done) | (go_simp; rfl) | (simp [execOp, Act.eval, go_sem, *]; done) | (simp [execOp, Act.eval, go_sem, *]; rfl)) rfl (Pu.refl _)
          · intro a' w' hs hp he
            try simp [Is, Region.binds] at he
            exact op_val rfl (wanted_none rfl) (by first | (go_simp; done) | (go_simp; rfl) | (simp [execOp, Act.eval, go_sem, *]; done) | (simp [execOp, Act.eval, go_sem, *]; rfl)) rfl (Pu.refl _)
          · intro a' w' hs hp he
            try simp [Is, Region.binds] at he
            exact op_val rfl (wanted_none rfl) (by first | (go_simp; done) | (go_simp; rfl) | (simp [execOp, Act.eval, go_sem, *]; done) | (simp [execOp, Act.eval, go_sem, *]; rfl)) rfl (Pu.refl _)
          · intro a' w' hs hp he
            try simp [Is, Region.binds] at he
            obtain ⟨d0, d1, d2, d3, d4⟩ := HCL.out _ hp; exact op_val rfl (wanted_none rfl) (by first | (go_simp; done) | (go_simp; rfl)) rfl (Pu.refl _)
          · intro a' w' hs hp he
            have e0 := hs 0 (by kernel_rfl)
            try simp [Is, Region.binds] at he
            exact op_val rfl (wanted_none rfl) (by first | (go_simp; done) | (go_simp; rfl) | (simp [execOp, Act.eval, go_sem, *]; done) | (simp [execOp, Act.eval, go_sem, *]; rfl)) rfl (Pu.refl _)
          · intro a' w' hs hp he
            try simp [Is, Region.binds] at he
            exact op_val rfl (wanted_none rfl) (by first | (go_simp; done) | (go_simp; rfl) | (simp [execOp, Act.eval, go_sem, *]; done) | (simp [execOp, Act.eval, go_sem, *]; rfl)) rfl (Pu.refl _)
          · intro a' w' hs hp he
            try simp [Is, Region.binds] at he
            exact op_val rfl (wanted_none rfl) (by first | (go_simp; done) | (go_simp; rfl) | (simp [execOp, Act.eval, go_sem, *]; done) | (simp [execOp, Act.eval, go_sem, *]; rfl)) rfl (Pu.refl _)
          · intro a' w' hs hp he
            try simp [Is, Region.binds] at he
            obtain ⟨d0, d1, d2, d3, d4⟩ := HCL.out _ hp; exact op_val rfl (wanted_none rfl) (by first | (go_simp; done) | (go_simp; rfl)) rfl (Pu.refl _)
          · intro a' w' hs hp he
            try simp [Is, Region.binds] at he
            exact op_callP ((HAT.out _ hp).mono (by rintro e w' ⟨rfl, rfl⟩; exact ⟨rfl, Pu.refl _⟩)) rfl (wanted_none rfl) (by first | (go_simp; done) | (go_simp; rfl)) (fun _ => rfl)
          · intro a' w' hs hp he
            try simp [Is, Region.binds] at he
            exact op_val rfl (wanted_none rfl) (by first | (go_simp; done) | (go_simp; rfl) | (simp [execOp, Act.eval, go_sem, *]; done) | (simp [execOp, Act.eval, go_sem, *]; rfl)) rfl (Pu.refl _)
        case hend =>
          intro a' w' hdef hsz hs hp hall
          obtain ⟨r0, r1, r2, r3, r4, r5, r6, r7, r8, r9, -⟩ := hall
          have hA := agree_done (agree_step (agree_step (agree_step (agree_step (agree_step (agree_step (agree_step (agree_step (agree_step (agree_step (agree_init [63, 64, 65, 66, 67, 68, 69, 70, 71, 13] hsz hs (by kernel_rfl)) r0) r1) r2) r3) r4) r5) r6) r7) r8) r9)
          have ha := act_of hA hdef
          rw [ha]
          clear ha hA hs hsz hdef r0 r1 r2 r3 r4 r5 r6 r7 r8 r9 
          (try simp only [List.setIfInBounds_toArray])
          (try dsimp only [List.set_cons_zero, List.set_cons_succ])
          (try simp only [Exit.then])
          have h4 := h3.pu hp
          rename World => w4
          clear hp h3 HCL HAT
          simp only [Option.isSome_some, if_true]
          go_wp2_with fail
          have HCL := Lib.hid (fun w' (hp : Pu w4 w') => (h4.pu hp).h.cells)
          have hlk := fun w' (hp : Pu w4 w') => isLockedB (h4.pu hp).k s.user now
          rw [HLK.out] at hlk
          have HIL := Lib.hid hlk
          clear hlk
          apply region_pu (Φs := (Is _ :: Is _ :: Is _ :: Is _ :: Is _ :: Is _ :: Is _ :: Is _ :: Is _ :: Is _ :: Is _ :: Is _ :: Is _ :: Is _ :: [])) (hm := by kernel_rfl) (hE := by kernel_rfl) (hD := by kernel_rfl) (hsize := by kernel_rfl)
          case hop =>
            refine ⟨?_, ?_, ?_, ?_, ?_, ?_, ?_, ?_, ?_, ?_, ?_, ?_, ?_, ?_, trivial⟩
            · intro a' w' hs hp he
              have e13 := hs 13 (by kernel_rfl)
              try simp [Is, Region.binds] at he
              exact op_val rfl (wanted_none rfl) (by first | (go_simp; done) | (go_simp; rfl) | (simp [execOp, Act.eval, go_sem, *]; done) | (simp [execOp, Act.eval, go_sem, *]; rfl)) rfl (Pu.refl _)
            · intro a' w' hs hp he
              try simp [Is, Region.binds] at he
              exact op_val rfl (wanted_none rfl) (by first | (go_simp; done) | (go_simp; rfl) | (simp [execOp, Act.eval, go_sem, *]; done) | (simp [execOp, Act.eval, go_sem, *]; rfl)) rfl (Pu.refl _)
            · intro a' w' hs hp he
              try simp [Is, Region.binds] at he
              exact op_val rfl (wanted_none rfl) (by first | (go_simp; done) | (go_simp; rfl) | (simp [execOp, Act.eval, go_sem, *]; done) | (simp [execOp, Act.eval, go_sem, *]; rfl)) rfl (Pu.refl _)
            · intro a' w' hs hp he
              have e0 := hs 0 (by kernel_rfl)
              try simp [Is, Region.binds] at he
              first | exact op_skip rfl ((wanted_some rfl rfl (by first | (simp [he]; done) | (simp [he]; rfl))).trans rfl) rfl | exact op_val rfl ((wanted_some rfl rfl (by first | (simp [he]; done) | (simp [he]; rfl))).trans rfl) (by first | (go_simp; done) | (go_simp; rfl) | (simp [execOp, Act.eval, go_sem, *]; done) | (simp [execOp, Act.eval, go_sem, *]; rfl)) rfl (Pu.refl _)
            · intro a' w' hs hp he
              try simp [Is, Region.binds] at he
              first | exact op_skip rfl ((wanted_some rfl rfl (by first | (simp [he]; done) | (simp [he]; rfl))).trans rfl) rfl | exact op_val rfl ((wanted_some rfl rfl (by first | (simp [he]; done) | (simp [he]; rfl))).trans rfl) (by first | (go_simp; done) | (go_simp; rfl) | (simp [execOp, Act.eval, go_sem, *]; done) | (simp [execOp, Act.eval, go_sem, *]; rfl)) rfl (Pu.refl _)
            · intro a' w' hs hp he
              try simp [Is, Region.binds] at he
              first | exact op_skip rfl ((wanted_some rfl rfl (by first | (simp [he]; done) | (simp [he]; rfl))).trans rfl) rfl | exact op_val rfl ((wanted_some rfl rfl (by first | (simp [he]; done) | (simp [he]; rfl))).trans rfl) (by first | (go_simp; done) | (go_simp; rfl) | (simp [execOp, Act.eval, go_sem, *]; done) | (simp [execOp, Act.eval, go_sem, *]; rfl)) rfl (Pu.refl _)
            · intro a' w' hs hp he
              try simp [Is, Region.binds] at he
              obtain ⟨d0, d1, d2, d3, d4⟩ := HCL.out _ hp; exact op_val rfl ((wanted_some rfl rfl (by first | (simp [he]; done) | (simp [he]; rfl))).trans rfl) (by first | (go_simp; done) | (go_simp; rfl)) rfl (Pu.refl _)
            · intro a' w' hs hp he
              have e0 := hs 0 (by kernel_rfl)
              try simp [Is, Region.binds] at he
              first | exact op_skip rfl ((wanted_some rfl rfl (by first | (simp [he]; done) | (simp [he]; rfl))).trans rfl) rfl | exact op_val rfl ((wanted_some rfl rfl (by first | (simp [he]; done) | (simp [he]; rfl))).trans rfl) (by first | (go_simp; done) | (go_simp; rfl) | (simp [execOp, Act.eval, go_sem, *]; done) | (simp [execOp, Act.eval, go_sem, *]; rfl)) rfl (Pu.refl _)
            · intro a' w' hs hp he
              try simp [Is, Region.binds] at he
              first | exact op_skip rfl ((wanted_some rfl rfl (by first | (simp [he]; done) | (simp [he]; rfl))).trans rfl) rfl | exact op_val rfl ((wanted_some rfl rfl (by first | (simp [he]; done) | (simp [he]; rfl))).trans rfl) (by first | (go_simp; done) | (go_simp; rfl) | (simp [execOp, Act.eval, go_sem, *]; done) | (simp [execOp, Act.eval, go_sem, *]; rfl)) rfl (Pu.refl _)
            · intro a' w' hs hp he
              try simp [Is, Region.binds] at he
              first | exact op_skip rfl ((wanted_some rfl rfl (by first | (simp [he]; done) | (simp [he]; rfl))).trans rfl) rfl | exact op_val rfl ((wanted_some rfl rfl (by first | (simp [he]; done) | (simp [he]; rfl))).trans rfl) (by first | (go_simp; done) | (go_simp; rfl) | (simp [execOp, Act.eval, go_sem, *]; done) | (simp [execOp, Act.eval, go_sem, *]; rfl)) rfl (Pu.refl _)
            · intro a' w' hs hp he
              try simp [Is, Region.binds] at he
              obtain ⟨d0, d1, d2, d3, d4⟩ := HCL.out _ hp; exact op_val rfl ((wanted_some rfl rfl (by first | (simp [he]; done) | (simp [he]; rfl))).trans rfl) (by first | (go_simp; done) | (go_simp; rfl)) rfl (Pu.refl _)
            · intro a' w' hs hp he
              have e2 := hs 2 (by kernel_rfl)
              try simp [Is, Region.binds] at he
              first | exact op_skip rfl ((wanted_some rfl rfl (by first | (simp [he]; done) | (simp [he]; rfl))).trans rfl) rfl | exact op_val rfl ((wanted_some rfl rfl (by first | (simp [he]; done) | (simp [he]; rfl))).trans rfl) (by first | (go_simp; done) | (go_simp; rfl) | (simp [execOp, Act.eval, go_sem, *]; done) | (simp [execOp, Act.eval, go_sem, *]; rfl)) rfl (Pu.refl _)
            · intro a' w' hs hp he
              try simp [Is, Region.binds] at he
              exact op_callP ((HIL.out _ hp).mono (by rintro e w' ⟨rfl, rfl⟩; exact ⟨rfl, Pu.refl _⟩)) rfl ((wanted_some rfl rfl (by first | (simp [he]; done) | (simp [he]; rfl))).trans rfl) (by first | (go_simp; done) | (go_simp; rfl)) (fun _ => rfl)
            · intro a' w' hs hp he
              try simp [Is, Region.binds] at he
              exact op_val rfl (wanted_none rfl) (by first | (go_simp; done) | (go_simp; rfl) | (simp [execOp, Act.eval, go_sem, *]; done) | (simp [execOp, Act.eval, go_sem, *]; rfl)) rfl (Pu.refl _)
          case hend =>
            intro a' w' hdef hsz hs hp hall
            obtain ⟨r0, r1, r2, r3, r4, r5, r6, r7, r8, r9, r10, r11, r12, r13, -⟩ := hall
            have hA := agree_done (agree_step (agree_step (agree_step (agree_step (agree_step (agree_step (agree_step (agree_step (agree_step (agree_step (agree_step (agree_step (agree_step (agree_step (agree_init [72, 73, 74, 75, 76, 77, 78, 79, 80, 81, 82, 83, 84, 85] hsz hs (by kernel_rfl)) r0) r1) r2) r3) r4) r5) r6) r7) r8) r9) r10) r11) r12) r13)
            have ha := act_of hA hdef
            rw [ha]
            clear ha hA hs hsz hdef r0 r1 r2 r3 r4 r5 r6 r7 r8 r9 r10 r11 r12 r13 
            (try simp only [List.setIfInBounds_toArray])
            (try dsimp only [List.set_cons_zero, List.set_cons_succ])
            (try simp only [Exit.then])
            have h5 := h4.pu hp
            rename World => w5
            clear hp h4 HCL HIL
            simp only [Option.isSome_some, if_true]
            obtain ⟨d0, d1, d2, d3, d4⟩ := h5.h.cells
            obtain ⟨b0, b1, b2, b3⟩ := h5.k.cells
            obtain ⟨haL, hrL⟩ := h5.k.usr HNE.out
            rw [haL] at b0
            have hcs := hrL.cell' (i * 2 + 1) (by rw [flatU_length, nsL_length]; have := HI.out; omega)
            rw [HSEC.out] at hcs
            go_wp2_with (go_at_call 19; refine (HPR.out _).mono ?_; rintro e w6 ⟨rfl, hp6⟩)
            have h6 := h5.pu hp6
            clear h5 hp6 d0 d1 d2 d3 d4 b0 b1 b2 b3 haL hrL hcs
            have HC6 := Lib.hid (fun w' (hp : Pu w6 w') => (h6.pu hp).h.cells)
            apply region_writer (g := w6.heap.size) (n := 9) (hn := by kernel_rfl) (hlast := rfl) (hU := by kernel_rfl) (Φ1 := ([])) (Φm := Is _) (Φ2 := (Is _ :: Is _ :: Is _ :: Is _ :: Is _ :: Is _ :: Is _ :: Is _ :: [])) (hm := by kernel_rfl) (hE := by kernel_rfl) (hD := by kernel_rfl) (hsize := by kernel_rfl)
            case hop =>
              refine ⟨?_, ?_, ?_, ?_, ?_, ?_, ?_, ?_, ?_, trivial⟩
              · intro a' w' hs hp he
                have hp : Pu _ w' := hp
                have e0 := hs 0 (by kernel_rfl)
                try simp [Is, Region.binds] at he
                exact op_valB rfl (wanted_none rfl) (by first | (go_simp; done) | (go_simp; rfl) | (simp [execOp, Act.eval, go_sem, *]; done) | (simp [execOp, Act.eval, go_sem, *]; rfl)) rfl (But.pu (Pu.refl _))
              · intro a' w' hs hp he
                have hp : But w6.heap.size _ w' := hp
                replace hp := But.toPu hp (Nat.le_refl _)
                try simp [Is, Region.binds] at he
                exact op_val rfl (wanted_none rfl) (by first | (go_simp; done) | (go_simp; rfl) | (simp [execOp, Act.eval, go_sem, *]; done) | (simp [execOp, Act.eval, go_sem, *]; rfl)) rfl (Pu.refl _)
              · intro a' w' hs hp he
                have hp : But w6.heap.size _ w' := hp
                replace hp := But.toPu hp (Nat.le_refl _)
                try simp [Is, Region.binds] at he
                exact op_val rfl (wanted_none rfl) (by first | (go_simp; done) | (go_simp; rfl) | (simp [execOp, Act.eval, go_sem, *]; done) | (simp [execOp, Act.eval, go_sem, *]; rfl)) rfl (Pu.refl _)
              · intro a' w' hs hp he
                have hp : But w6.heap.size _ w' := hp
                replace hp := But.toPu hp (Nat.le_refl _)
                try simp [Is, Region.binds] at he
                obtain ⟨d0, d1, d2, d3, d4⟩ := HC6.out _ hp; exact op_val rfl (wanted_none rfl) (by first | (go_simp; done) | (go_simp; rfl)) rfl (Pu.refl _)
              · intro a' w' hs hp he
                have hp : But w6.heap.size _ w' := hp
                replace hp := But.toPu hp (Nat.le_refl _)
                have e0 := hs 0 (by kernel_rfl)
                try simp [Is, Region.binds] at he
                exact op_val rfl (wanted_none rfl) (by first | (go_simp; done) | (go_simp; rfl) | (simp [execOp, Act.eval, go_sem, *]; done) | (simp [execOp, Act.eval, go_sem, *]; rfl)) rfl (Pu.refl _)
              · intro a' w' hs hp he
                have hp : But w6.heap.size _ w' := hp
                replace hp := But.toPu hp (Nat.le_refl _)
                try simp [Is, Region.binds] at he
                exact op_val rfl (wanted_none rfl) (by first | (go_simp; done) | (go_simp; rfl) | (simp [execOp, Act.eval, go_sem, *]; done) | (simp [execOp, Act.eval, go_sem, *]; rfl)) rfl (Pu.refl _)
              · intro a' w' hs hp he
                have hp : But w6.heap.size _ w' := hp
                replace hp := But.toPu hp (Nat.le_refl _)
                try simp [Is, Region.binds] at he
                exact op_val rfl (wanted_none rfl) (by first | (go_simp; done) | (go_simp; rfl) | (simp [execOp, Act.eval, go_sem, *]; done) | (simp [execOp, Act.eval, go_sem, *]; rfl)) rfl (Pu.refl _)
              · intro a' w' hs hp he
                have hp : But w6.heap.size _ w' := hp
                replace hp := But.toPu hp (Nat.le_refl _)
                try simp [Is, Region.binds] at he
                obtain ⟨d0, d1, d2, d3, d4⟩ := HC6.out _ hp; exact op_val rfl (wanted_none rfl) (by first | (go_simp; done) | (go_simp; rfl)) rfl (Pu.refl _)
              · intro a' w' hs hp he
                have hp : But w6.heap.size _ w' := hp
                replace hp := But.toPu hp (Nat.le_refl _)
                have e2 := hs 2 (by kernel_rfl)
                try simp [Is, Region.binds] at he
                exact op_val rfl (wanted_none rfl) (by first | (go_simp; done) | (go_simp; rfl) | (simp [execOp, Act.eval, go_sem, *]; done) | (simp [execOp, Act.eval, go_sem, *]; rfl)) rfl (Pu.refl _)
            case hend =>
              intro a' w' hdef hsz hs hp hall
              replace hp := But.toPu hp (Nat.le_refl _)
              obtain ⟨r0, r1, r2, r3, r4, r5, r6, r7, r8, -⟩ := hall
              have hA := agree_done (agree_step (agree_step (agree_step (agree_step (agree_step (agree_step (agree_step (agree_step (agree_step (agree_initL [105, 106, 107, 108, 109, 110, 111, 112, 113] hsz hs (by kernel_rfl)) r0) r1) r2) r3) r4) r5) r6) r7) r8)
              have ha := act_of hA hdef
              rw [ha]
              clear ha hA hs hsz hdef r0 r1 r2 r3 r4 r5 r6 r7 r8 
              (try simp only [List.setIfInBounds_toArray])
              (try dsimp only [List.set_cons_zero, List.set_cons_succ])
              (try simp only [Exit.then])
              refine op_callK rfl (wanted_none rfl) (by first | (go_simp; done) | (go_simp; rfl)) ((failB (h6.pu hp).k s.user now n1 n2).mono ?_); rintro e w7 ⟨rfl, hk7, hc7⟩; refine ⟨_, rfl, ?_⟩
              (try simp only [Exit.inBlock, Exit.then])
              have h7 := (h6.pu hp).book hk7 hc7
              clear hk7 hc7 hp HC6 h6
              go_wp2_with fail
              go_ret2
              exact ⟨rfl, ⟨h7.h, h7.k, h7.cg⟩⟩
end
end Go.Proofs.YtlbdbmnkjljohaaGreat
