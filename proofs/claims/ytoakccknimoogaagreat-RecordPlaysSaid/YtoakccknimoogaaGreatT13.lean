/- Package record: a record is opened. Package record: a record comes that is none, was there, or is another one's. Package record: a record comes that is opened, or is none of this key. Package record: a record comes that is opened: all that can be told. Records, in plain Lean: what was sealed is opened. Chapter 13: a record comes, whatever it is; the first call. -/
import Derived.Test.YtoakccknimoogaaGreatT12
import Derived.Maps.AppendAt
set_option linter.unusedSimpArgs false
set_option linter.unusedVariables false
set_option linter.unusedSimpArgs false
set_option linter.unusedVariables false
namespace Go.Proofs.YtoakccknimoogaaGreat
open Go.RowKit Go.Esc
theorem op_callC {P : Program} {ops : Array Oper} {Q : Exit → Act → World → Prop} {g : Nat} {Φ : Value → World → Prop} {C : World → Prop} {i : Nat} {o : Oper} {a' : Act} {w' : World} {f : FuncId} {args : Array Value} (ho : ops[i]? = some o) (hw : Region.wanted o (yielded ops a'.tmps) = true)
 (hrun : (execOp a'.eval o).run P w' = .ok (.enter f args) w') (hc : Calls P f args w' fun e w'' => ∃ v, e = .returned v ∧ (Φ (if o.dst.isSome then v else undef) w'' ∧ C w'') ∧ But g w' w'') :
 wpOp P ops Q i (fun a'' w'' => ∃ v, a'' = a'.put o.dst v ∧ (Φ (if o.dst.isSome then v else undef) w'' ∧ C w'') ∧ But g w' w'') a' w' := by
 unfold wpOp
 simp only [ho, hw, if_true]
 refine .inl ?_
 unfold Oper.wp
 rw [hrun, Oper.upon_enter]
 refine hc.mono ?_
 rintro e w'' ⟨v, rfl, hφ, hp⟩
 exact ⟨v, rfl, hφ, hp⟩
theorem openR_len (k n b h : Bs) : (openR k n b h).1.length ≤ b.length := by
 unfold openR
 split
 · simp only [streamL_length, List.length_take]; omega
 · simp
set_option maxRecDepth 100000 in
set_option maxHeartbeats 1600000 in
theorem inOpened {G : Nat → Prop} {w : World} {ib tb mb wb lb : Nat} {am : Option Nat} {key : Bs} {m : Nat} {s : InS} (h : InP G w ib tb mb wb lb am key m s) (hk : key.length = 32) (q : Nat) (b : Bs) (hq : q < 400) (hb : 24 ≤ b.length) (hb2 : b.length ≤ 90000) (hm : m ≤ 100000) :
 Calls Tryz.prog 33 #[.pointer (some ⟨ib, 0, none⟩), .int .i64 (q : Int), S b] w fun e w' => e = .returned (.tuple #[S ((plainL key q b).getD []), .bool (plainL key q b).isSome]) ∧ Turns (Gw G w w') w' tb mb key (m+1) ∧ But mb w w' := by
 have hN := fun w => nonce q (by omega) w
 have hO := fun w => boxOpen (turnL key (q / 8)) (nonceL q) (b.drop 8) (b.take 8) (by simp; omega) (by simp; omega) w
 have hU := fun w => unpad (openR (turnL key (q / 8)) (nonceL q) (b.drop 8) (b.take 8)).1 w (by have := openR_len (turnL key (q / 8)) (nonceL q) (b.drop 8) (b.take 8); simp at this; omega)
 have hpl : plainL key q b = if (openR (turnL key (q / 8)) (nonceL q) (b.drop 8) (b.take 8)).2 then unpadL (openR (turnL key (q / 8)) (nonceL q) (b.drop 8) (b.take 8)).1 else none := rfl
 have hT := fun (H : Nat → Prop) w' (ht : Turns H w' tb mb key m) => turnsAt H tb mb key m q w' ht hk (by omega) hm
 obtain ⟨k, hkk⟩ : ∃ k, k = turnL key (q / 8) := ⟨_, rfl⟩
 obtain ⟨no, hno⟩ : ∃ no, no = nonceL q := ⟨_, rfl⟩
 rw [← hkk] at hT
 rw [← hno] at hN
 rw [← hkk, ← hno] at hO hU hpl
 obtain ⟨r, hr⟩ : ∃ r, r = openR k no (b.drop 8) (b.take 8) := ⟨_, rfl⟩
 rw [← hr] at hO hU hpl
 obtain ⟨r1, r2⟩ := r
 simp only [rb] at hO
 simp only at hU hpl
 obtain ⟨pl, hplv⟩ : ∃ pl, pl = plainL key q b := ⟨_, rfl⟩
 rw [← hplv] at hpl ⊢
 have hdl : (8 : Int) ≤ b.length := by omega
 have hrow := h.row
 have hnmi : mb ≠ ib := by obtain ⟨f, c, -, hmm, -⟩ := h.turns; exact hmm.ne hrow
 have htu := h.turns
 have hgi := h.gi
 have HN := Lib.hid hN
 have HO := Lib.hid hO
 have HU := Lib.hid hU
 have HT := Lib.hid hT
 have HPL := Lib.hid hpl
 have HTU := Lib.hid htu
 have cA : ∀ args w, (callFunc 22 args).run Tryz.prog w = .ok (.enter 22 args) w := fun args w => run_callFunc_body Tryz.func22 (by kernel_rfl) (by kernel_rfl) args w
 have cN : ∀ args w, (callFunc 23 args).run Tryz.prog w = .ok (.enter 23 args) w := fun args w => run_callFunc_body Tryz.func23 (by kernel_rfl) (by kernel_rfl) args w
 have cO : ∀ args w, (callFunc 87 args).run Tryz.prog w = .ok (.enter 87 args) w := fun args w => run_callFunc_body Tryz.func87 (by kernel_rfl) (by kernel_rfl) args w
 clear hN hO hU hT hkk hno hr hplv h hpl htu
 go_enter Tryz.func33, Tryz.ntmps33
 go_wp2_with fail
 apply region_chain (g := mb) (chain := [5]) (C := (fun s w' => Turns (Gw G w w') w' tb mb key (m + s))) (Φs := (Is _ :: Is _ :: Is _ :: Is _ :: Is _ :: Is _ :: Is _ :: Is _ :: Is _ :: Is _ :: Is _ :: Is _ :: Is _ :: Is _ :: Is _ :: Is _ :: Is _ :: Is _ :: [])) (hm := by kernel_rfl) (hE := by kernel_rfl) (hD := by kernel_rfl) (hup := by kernel_rfl) (hch := by kernel_rfl) (hsize := by kernel_rfl)
 case hC =>
  intro s a b h hp
  exact (Turns.pu h hp).mono (fun g hg => by rcases hg with h1 | h1; exact .inl h1; exact .inr ⟨h1.1, Nat.lt_of_lt_of_le h1.2 hp.size⟩)
 case hC0 =>
  exact HTU.out.mono (fun g hg => .inl hg)
 case hop =>
  refine ⟨?_, ?_, ?_, ?_, ?_, ?_, ?_, ?_, ?_, ?_, ?_, ?_, ?_, ?_, ?_, ?_, ?_, ?_, trivial⟩
  · intro a' w' s hs hp hC hlo hhi he
    rw [if_neg (by decide)]
    clear hlo hhi
    have e0 := hs 0 (by kernel_rfl)
    try simp [Is, Region.binds] at he
    exact op_v
  · intro a' w' s hs hp hC hlo hhi he
    rw [if_neg (by decide)]
    clear hlo hhi
    try simp [Is, Region.binds] at he
    exact op_v
  · intro a' w' s hs hp hC hlo hhi he
    rw [if_neg (by decide)]
    clear hlo hhi
    try simp [Is, Region.binds] at he
    exact op_v
  · intro a' w' s hs hp hC hlo hhi he
    rw [if_neg (by decide)]
    clear hlo hhi
    try simp [Is, Region.binds] at he
    have hc := (hp.row hrow (by omega)).cell 0 (by simp); simp at hc; exact op_val rfl (wanted_none rfl) (by first | (go_simp; done) | (go_simp; rfl)) rfl (Pu.refl _)
  · intro a' w' s hs hp hC hlo hhi he
    rw [if_neg (by decide)]
    clear hlo hhi
    have e1 := hs 1 (by kernel_rfl)
    try simp [Is, Region.binds] at he
    exact op_v
  · intro a' w' s hs hp hC hlo hhi he
    rw [if_pos (by decide)]; intro hsc; clear hsc
    have hs0 : s = 0 := Nat.le_antisymm (Nat.le_trans hhi (Nat.le_of_eq (by kernel_rfl))) (Nat.le_trans (Nat.le_of_eq (by kernel_rfl)) hlo)
    subst hs0
    clear hlo hhi
    try simp [Is, Region.binds] at he
    refine op_callC rfl (wanted_none rfl) (by first | (go_simp; done) | (go_simp; rfl)) ((HT.out _ _ hC).mono ?_); rintro e2 w2 ⟨rfl, ht2, hb2'⟩; exact ⟨_, rfl, ⟨rfl, ht2.mono (fun g hg => by rcases hg with (h1 | h1) | h1; exact .inl h1; exact .inr ⟨h1.1, Nat.lt_of_lt_of_le h1.2 hb2'.size⟩; exact .inr ⟨Nat.le_trans hp.size h1.1, h1.2⟩)⟩, hb2'⟩
  · intro a' w' s hs hp hC hlo hhi he
    rw [if_neg (by decide)]
    clear hlo hhi
    have e1 := hs 1 (by kernel_rfl)
    try simp [Is, Region.binds] at he
    exact op_v
  · intro a' w' s hs hp hC hlo hhi he
    rw [if_neg (by decide)]
    clear hlo hhi
    try simp [Is, Region.binds] at he
    exact op_callP (HN.out _) rfl (wanted_none rfl) (by first | (go_simp; done) | (go_simp; rfl)) (fun _ => rfl)
  · intro a' w' s hs hp hC hlo hhi he
    rw [if_neg (by decide)]
    clear hlo hhi
    have e2 := hs 2 (by kernel_rfl)
    try simp [Is, Region.binds] at he
    exact op_v
  · intro a' w' s hs hp hC hlo hhi he
    rw [if_neg (by decide)]
    clear hlo hhi
    try simp [Is, Region.binds] at he
    exact op_v
  · intro a' w' s hs hp hC hlo hhi he
    rw [if_neg (by decide)]
    clear hlo hhi
    have e2 := hs 2 (by kernel_rfl)
    try simp [Is, Region.binds] at he
    exact op_v
  · intro a' w' s hs hp hC hlo hhi he
    rw [if_neg (by decide)]
    clear hlo hhi
    try simp [Is, Region.binds] at he
    exact op_v
  · intro a' w' s hs hp hC hlo hhi he
    rw [if_neg (by decide)]
    clear hlo hhi
    try simp [Is, Region.binds] at he
    exact op_callP (HO.out _) rfl (wanted_none rfl) (by first | (go_simp; done) | (go_simp; rfl)) (fun _ => rfl)
  · intro a' w' s hs hp hC hlo hhi he
    rw [if_neg (by decide)]
    clear hlo hhi
    try simp [Is, Region.binds] at he
    exact op_v
  · intro a' w' s hs hp hC hlo hhi he
    rw [if_neg (by decide)]
    clear hlo hhi
    try simp [Is, Region.binds] at he
    exact op_v
  · intro a' w' s hs hp hC hlo hhi he
    rw [if_neg (by decide)]
    clear hlo hhi
    try simp [Is, Region.binds] at he
    exact op_v
  · intro a' w' s hs hp hC hlo hhi he
    rw [if_neg (by decide)]
    clear hlo hhi
    try simp [Is, Region.binds] at he
    exact op_v
  · intro a' w' s hs hp hC hlo hhi he
    rw [if_neg (by decide)]
    clear hlo hhi
    try simp [Is, Region.binds] at he
    exact op_v
 case hend =>
  intro a' w' hdef hsz hs hp hC hall
  obtain ⟨r0, r1, r2, r3, r4, r5, r6, r7, r8, r9, r10, r11, r12, r13, r14, r15, r16, r17, -⟩ := hall
  have hA := agree_done (agree_step (agree_step (agree_step (agree_step (agree_step (agree_step (agree_step (agree_step (agree_step (agree_step (agree_step (agree_step (agree_step (agree_step (agree_step (agree_step (agree_step (agree_step (agree_init [11, 12, 13, 14, 15, 16, 17, 18, 19, 20, 21, 22, 23, 10, 24, 25, 8, 9] hsz hs (by kernel_rfl)) r0) r1) r2) r3) r4) r5) r6) r7) r8) r9) r10) r11) r12) r13) r14) r15) r16) r17)
  have ha := act_of hA hdef
  rw [ha]
  clear ha hA hs hsz hdef r0 r1 r2 r3 r4 r5 r6 r7 r8 r9 r10 r11 r12 r13 r14 r15 r16 r17 
  (try simp only [List.setIfInBounds_toArray])
  (try dsimp only [List.set_cons_zero, List.set_cons_succ])
  (try simp only [Exit.then])
  have HC2 := Lib.hid hC
  have HPB := Lib.hid hp
  clear hC hp
  have hplo := HPL.out
  cases r2 with
  | false =>
    have e1 : pl = none := by simpa using hplo
    have E1 := Lib.hid e1
    clear hplo e1
    go_wp2_with fail
    go_ret2
    exact ⟨by rw [E1.out]; rfl, HC2.out, HPB.out⟩
  | true =>
    have e1 : pl = unpadL r1 := by simpa using hplo
    rw [← e1] at HU
    clear hplo e1
    go_wp2_with (go_at_call 88; refine (HU.out _).mono ?_; rintro e3 w3 ⟨rfl, hp3⟩)
    go_ret2
    exact ⟨rfl, (HC2.out.pu hp3).mono (fun g hg => by rcases hg with h1 | h1; exact .inl h1; exact .inr ⟨h1.1, Nat.lt_of_lt_of_le h1.2 hp3.size⟩), HPB.out.trans (But.pu hp3)⟩
end Go.Proofs.YtoakccknimoogaaGreat
set_option linter.unusedSimpArgs false
set_option linter.unusedVariables false
namespace Go.Proofs.YtoakccknimoogaaGreat
open Go.RowKit Go.Esc
theorem own_kind {w : World} {B e n g : Nat} {v : Value} {xs : List Value} (h : w.ownsRow B e 1 v n xs) (hg : v.ownBlock = some g) : ∃ c fr, w.heap[g]? = some (.cells c e fr) := by
 rcases h.2 with ⟨h0, _⟩ | ⟨g', cap, cur, hv, _, hc, _⟩
 · rw [h0] at hg; cases hg
 · rw [hv] at hg
   obtain rfl : g' = g := by simpa [Value.ownBlock] using hg
   exact ⟨_, _, hc⟩
theorem own_ne_row {w : World} {B e e' n g : Nat} {v : Value} {xs ys : List Value} (h : w.ownsRow B e 1 v n xs) (hr : Row w g e' ys) (hne : e ≠ e') : v.ownBlock ≠ some g := fun hg => by
 obtain ⟨c, fr, h1⟩ := own_kind h hg
 obtain ⟨c', fr', h2, _⟩ := hr
 rw [h1] at h2; cases h2; exact hne rfl
theorem own_ne_map {P : Program} {kt : TypeId} {K : Type} {lit : K → Lit} {w : World} {B e n b c : Nat} {v : Value} {xs : List Value} {f : K → Option Value} (h : w.ownsRow B e 1 v n xs) (hm : MapAt P kt lit w b c f) : v.ownBlock ≠ some b := fun hg => by
 obtain ⟨c, fr, h1⟩ := own_kind h hg
 obtain ⟨D, ⟨es, clock, h2, _⟩, _⟩ := hm
 rw [h1] at h2; cases h2
/-- What an In has lies apart from a list of texts. -/
theorem InP.avoid {G : Nat → Prop} {w : World} {ib tb mb wb lb : Nat} {am : Option Nat} {key : Bs} {m : Nat} {s : InS} (h : InP G w ib tb mb wb lb am key m s) {B n : Nat} {v : Value} {xs : List Value} (ho : w.ownsRow B 9 1 v n xs) :
 InP (fun g => G g ∧ v.ownBlock ≠ some g) w ib tb mb wb lb am key m s := by
 obtain ⟨f, c, t1, t2, t3, t4⟩ := h.turns
 refine ⟨h.row, ⟨f, c, t1, t2, t3, fun e x he => ?_⟩, h.win, h.l, ⟨h.gt, own_ne_row ho t1 (by decide)⟩, ⟨h.gm, own_ne_map ho t2⟩, ⟨h.gw, own_ne_row ho h.win.row (by decide)⟩, ⟨h.gl, own_ne_map ho h.l⟩, ⟨h.gi, own_ne_row ho h.row (by decide)⟩, fun ab ha => ⟨h.ga ab ha, own_ne_map ho (h.win.map ab ha)⟩, h.nml, h.nma, h.nla, fun g hg => h.dom g hg.1, h.ok, h.c⟩
 obtain ⟨y, hy, hg, hr⟩ := t4 e x he
 exact ⟨y, hy, ⟨hg, own_ne_row ho hr (by decide)⟩, hr⟩
theorem InP.mono {G H : Nat → Prop} {w : World} {ib tb mb wb lb : Nat} {am : Option Nat} {key : Bs} {m : Nat} {s : InS} (h : InP G w ib tb mb wb lb am key m s) (hd : ∀ g, G g → H g) (hdom : ∀ g, H g → g < w.heap.size) : InP H w ib tb mb wb lb am key m s :=
 ⟨h.row, h.turns.mono hd, h.win, h.l, hd _ h.gt, hd _ h.gm, hd _ h.gw, hd _ h.gl, hd _ h.gi, fun ab ha => hd _ (h.ga ab ha), h.nml, h.nma, h.nla, hdom, h.ok, h.c⟩
theorem InP.more {G : Nat → Prop} {w : World} {ib tb mb wb lb : Nat} {am : Option Nat} {key : Bs} {m : Nat} {s : InS} (h : InP G w ib tb mb wb lb am key m s) : InP G w ib tb mb wb lb am key (m+1) s := by
 obtain ⟨f, c, t1, t2, t3, t4⟩ := h.turns
 exact ⟨h.row, ⟨f, c, t1, t2, by omega, t4⟩, h.win, h.l, h.gt, h.gm, h.gw, h.gl, h.gi, h.ga, h.nml, h.nma, h.nla, h.dom, h.ok, Nat.le_succ_of_le h.c⟩
/-- Behind a record that came. -/
def OpenR (G : Nat → Prop) (w w' : World) (ib : Nat) (key : Bs) (m : Nat) (r : Nat × List Bs × InS) (v : Value) : Prop :=
 w'.ownsRow w.heap.size 9 1 v r.2.1.length (r.2.1.map S) ∧ InAt (fun g => Gw G w w' g ∧ v.ownBlock ≠ some g) w' ib key (m+1) r.2.2 ∧ Cg G w w'
theorem openNone {G : Nat → Prop} {w w' : World} {ib tb mb wb lb : Nat} {am : Option Nat} {key : Bs} {m : Nat} {s : InS} (h : InP G w ib tb mb wb lb am key m s) (hp : Pu w w') (e : Nat) : OpenR G w w' ib key m (e, [], s) (.slice none 0 0) := by
 have ho := World.ownsRow_nil w' w.heap.size 9 1
 exact ⟨ho, ⟨tb, mb, wb, lb, am, (((h.cg (H := fun _ => False) (Cg.ofPu hp) (fun _ h => h.elim)).mono (fun g hg => .inl hg) (Gw.dom h.dom hp.size)).more).avoid ho⟩, Cg.ofPu hp⟩
set_option maxRecDepth 100000 in
theorem openBad {G : Nat → Prop} {w : World} {ib : Nat} {key : Bs} {m : Nat} {s : InS} (h : InAt G w ib key m s) (b : Bs) (hb : badForm b) (hb2 : b.length ≤ 90000) :
 Calls Tryz.prog 12 #[.pointer (some ⟨ib, 0, none⟩), S b] w fun e w' => e = .returned (.tuple #[.slice none 0 0, .int .i64 2]) ∧ Pu w w' := by
 obtain ⟨tb, mb, wb, lb, am, h⟩ := h
 have c0 := h.row.cell 0 (by simp)
 simp at c0
 clear h
 by_cases h24 : b.length < 24
 · have k1 : (b.length : Int) < 24 := by omega
   clear hb
   go_enter Tryz.func12, Tryz.ntmps12
   go_wp2_with fail
   go_ret2
   exact ⟨rfl, Pu.refl _⟩
 · have k1 : ¬ (b.length : Int) < 24 := by omega
   have k3 : (8 : Int) ≤ b.length := by omega
   have hbb : 400 ≤ beN (b.take 8) := hb.resolve_left h24
   have hB := fun w => big (b.take 8) w (by simp; omega)
   obtain ⟨v, hv⟩ : ∃ v, v = beN (b.take 8) := ⟨_, rfl⟩
   rw [← hv] at hB hbb
   have k2 : (400 : Int) ≤ v := by omega
   have HB := Lib.hid hB
   clear hB hb hv
   go_enter Tryz.func12, Tryz.ntmps12
   go_wp2_with (go_at_call 31; refine (HB.out _).mono ?_; rintro e w1 ⟨rfl, hp1⟩)
   go_ret2
   exact ⟨rfl, hp1⟩
set_option maxRecDepth 100000 in
theorem openOld {G : Nat → Prop} {w : World} {ib : Nat} {key : Bs} {m : Nat} {s : InS} (h : InAt G w ib key m s) (b : Bs) (hb : ¬ badForm b) (hb2 : b.length ≤ 90000) (hold : beN (b.take 8) < s.n ∨ s.n + 64 ≤ beN (b.take 8) ∨ (s.f (beN (b.take 8))).isSome = true) :
 Calls Tryz.prog 12 #[.pointer (some ⟨ib, 0, none⟩), S b] w fun e w' => e = .returned (.tuple #[.slice none 0 0, .int .i64 4]) ∧ Pu w w' := by
 obtain ⟨tb, mb, wb, lb, am, h⟩ := h
 have hn := h.ok.n
 unfold badForm at hb
 obtain ⟨v, hv⟩ : ∃ v, v = beN (b.take 8) := ⟨_, rfl⟩
 rw [← hv] at hold hb
 have hB := fun w => big (b.take 8) w (by simp; omega)
 rw [← hv] at hB
 have hM := fun w' (hp : Pu w w') => winMay (h.win.pu hp) v (by omega) (by omega)
 rw [decide_eq_false (by rintro ⟨h1, h2, h3⟩; rw [h3] at hold; simp at hold; omega)] at hM
 have hrow := h.row
 have hC1 : ∀ w', Pu w w' → w'.cell? ⟨ib, 1, none⟩ = some (.pointer (some ⟨wb, 0, none⟩)) := fun w' hp => by have := (hrow.pu hp).cell 1 (by simp); simpa using this
 have c0 := hrow.cell 0 (by simp)
 simp at c0
 have k1 : ¬ (b.length : Int) < 24 := by omega
 have k2 : ¬ (400 : Int) ≤ v := by omega
 have k3 : (8 : Int) ≤ b.length := by omega
 have HB := Lib.hid hB
 have HM := Lib.hid hM
 have HC1 := Lib.hid hC1
 have k4 : (v : Int) < 400 := by omega
 clear hB hM hC1 h hrow hold hb hv hn
 have T1 := Lib.hid True.intro
 go_enter Tryz.func12, Tryz.ntmps12
 go_wp2_with (first
  | (go_at_call 31; clear T1; refine (HB.out _).mono ?_; rintro e w1 ⟨rfl, hp1⟩)
  | (go_at_call 31; refine (HB.out _).mono ?_; rintro e w2 ⟨rfl, hp2⟩; have hp12 := hp1.trans hp2; have c1 := HC1.out _ hp12)
  | (go_at_call 32; refine (HM.out _ hp12).mono ?_; rintro e w3 ⟨rfl, rfl⟩))
 go_ret2
 exact ⟨rfl, hp12⟩
end Go.Proofs.YtoakccknimoogaaGreat
set_option linter.unusedSimpArgs false
set_option linter.unusedVariables false
namespace Go.Proofs.YtoakccknimoogaaGreat
open Go.RowKit Go.Esc
theorem InP.turned {G : Nat → Prop} {w w' : World} {ib tb mb wb lb : Nat} {am : Option Nat} {key : Bs} {m : Nat} {s : InS} (h : InP G w ib tb mb wb lb am key m s) (ht : Turns (Gw G w w') w' tb mb key (m+1)) (hb : But mb w w') : InP (Gw G w w') w' ib tb mb wb lb am key (m+1) s := by
 obtain ⟨f, c, -, t2, -, -⟩ := h.turns
 refine ⟨hb.row h.row (by have := t2.ne h.row; omega), ht, ⟨hb.row h.win.row (by have := t2.ne h.win.row; omega), h.win.nil, fun ab ha => (h.win.map ab ha).but hb (fun e => h.nma (by rw [ha, e]))⟩, h.l.but hb (fun e => h.nml e.symm), .inl h.gt, .inl h.gm, .inl h.gw, .inl h.gl, .inl h.gi, fun ab ha => .inl (h.ga ab ha), h.nml, h.nma, h.nla, Gw.dom h.dom hb.size, h.ok, Nat.le_succ_of_le h.c⟩
set_option maxRecDepth 100000 in
theorem openSeal {G : Nat → Prop} {w : World} {ib : Nat} {key : Bs} {m : Nat} {s : InS} (h : InAt G w ib key m s) (hk : key.length = 32) (hm : m ≤ 100000) (b : Bs) (hb : ¬ badForm b) (hb2 : b.length ≤ 90000) (hold : ¬ (beN (b.take 8) < s.n ∨ s.n + 64 ≤ beN (b.take 8) ∨ (s.f (beN (b.take 8))).isSome = true)) (hpl : plainL key (beN (b.take 8)) b = none) :
 Calls Tryz.prog 12 #[.pointer (some ⟨ib, 0, none⟩), S b] w fun e w' => e = .returned (.tuple #[.slice none 0 0, .int .i64 3]) ∧ OpenR G w w' ib key m (3, [], s) (.slice none 0 0) := by
 obtain ⟨tb, mb, wb, lb, am, h⟩ := h
 have hn := h.ok.n
 unfold badForm at hb
 obtain ⟨v, hv⟩ : ∃ v, v = beN (b.take 8) := ⟨_, rfl⟩
 rw [← hv] at hold hb hpl
 have hB := fun w => big (b.take 8) w (by simp; omega)
 rw [← hv] at hB
 have hM := fun w' (hp : Pu w w') => winMay (h.win.pu hp) v (by omega) (by omega)
 rw [decide_eq_true (by cases hf : (s.f v).isSome with | true => (rw [hf] at hold; simp at hold) | false => exact ⟨by omega, by omega, rfl⟩)] at hM
 have hO := fun w' (hp : Pu w w') => inOpened (h.cg (H := fun _ => False) (Cg.ofPu hp) (fun _ h => h.elim)) hk v b (by omega) (by omega) hb2 hm
 rw [hpl] at hO
 have hrow := h.row
 have hC1 : ∀ w', Pu w w' → w'.cell? ⟨ib, 1, none⟩ = some (.pointer (some ⟨wb, 0, none⟩)) := fun w' hp => by have := (hrow.pu hp).cell 1 (by simp); simpa using this
 have c0 := hrow.cell 0 (by simp)
 simp at c0
 have k1 : ¬ (b.length : Int) < 24 := by omega
 have k2 : ¬ (400 : Int) ≤ v := by omega
 have k3 : (8 : Int) ≤ b.length := by omega
 have HB := Lib.hid hB
 have HM := Lib.hid hM
 have HC1 := Lib.hid hC1
 have HO := Lib.hid hO
 have HH := Lib.hid h
 have k4 : (v : Int) < 400 := by omega
 clear hB hM hC1 h hrow hold hb hv hn hO hpl
 have T1 := Lib.hid True.intro
 go_enter Tryz.func12, Tryz.ntmps12
 go_wp2_with (first
  | (go_at_call 31; clear T1; refine (HB.out _).mono ?_; rintro e w1 ⟨rfl, hp1⟩)
  | (go_at_call 31; refine (HB.out _).mono ?_; rintro e w2 ⟨rfl, hp2⟩; have hp12 := hp1.trans hp2; have c1 := HC1.out _ hp12)
  | (go_at_call 32; refine (HM.out _ hp12).mono ?_; rintro e w3 ⟨rfl, rfl⟩)
  | (go_at_call 33; refine (HO.out _ hp12).mono ?_; rintro e w4 ⟨rfl, ht4, hb4⟩))
 go_ret2
 have h1 := HH.out.cg (H := fun _ => False) (Cg.ofPu hp12) (fun _ h => h.elim)
 have h4 := h1.turned ht4 hb4
 have ho := World.ownsRow_nil w4 w.heap.size 9 1
 refine ⟨rfl, ho, ⟨tb, mb, wb, lb, am, (h4.mono (fun g hg => ?_) (Gw.dom HH.out.dom (Nat.le_trans hp12.size hb4.size))).avoid ho⟩, (Cg.ofPu hp12).andThen (H := G) (Cg.ofBut hb4 HH.out.gm) (fun g hg => .inl hg)⟩
 rcases hg with h9 | h9
 · exact .inl h9
 · exact .inr ⟨Nat.le_trans hp12.size h9.1, h9.2⟩
theorem textV_upd (f : Nat → Option Bs) (q : Nat) (t : Bs) : upd (textV f) q (some (S t)) = textV (updF f q (some t)) := by
 funext k
 unfold upd textV updF
 split <;> rfl
theorem textV_cut (f : Nat → Option Bs) (n : Nat) : upd (textV (cutF f n)) n none = textV (cutF f (n+1)) := by
 funext k
 unfold upd textV cutF
 by_cases h : k = n
 · rw [if_pos h, if_pos (by omega)]; rfl
 · rw [if_neg h]
   by_cases h2 : k < n
   · rw [if_pos h2, if_pos (by omega)]
   · rw [if_neg h2, if_neg (by omega)]
theorem Turns.step {G : Nat → Prop} {w w' : World} {tb mb ib lb c : Nat} {key : Bs} {m : Nat} {xs : List Value} {f : Nat → Option Value} (h : Turns G w tb mb key m) (hp : Cg (fun g => g = ib ∨ g = lb) w w') (hr : Row w ib 75 xs) (hl : MapAt Tryz.prog 3 litI w lb c f) (hne : mb ≠ lb) : Turns G w' tb mb key m := by
 obtain ⟨f', c', t1, t2, t3, t4⟩ := h
 refine ⟨f', c', hp.row t1 (fun e => ?_), t2.other (hp.block mb t2.lt (fun e => ?_)), t3, fun e v he => ?_⟩
 · rcases e with e | e
   · exact Row.ne t1 hr (by decide) e
   · exact hl.ne t1 e.symm
 · rcases e with e | e
   · exact t2.ne hr e
   · exact hne e
 · obtain ⟨x, hx, hg, hrx⟩ := t4 e v he
   refine ⟨x, hx, hg, hp.row hrx (fun e => ?_)⟩
   rcases e with e | e
   · exact Row.ne hrx hr (by decide) e
   · exact hl.ne hrx e.symm
theorem Turns.step' {G H : Nat → Prop} {w w' : World} {tb mb : Nat} {key : Bs} {m : Nat} (h : Turns G w tb mb key m) (hp : Cg H w w')
 (hH : ∀ g, H g → (∃ e xs, Row w g e xs ∧ e ≠ 61 ∧ e ≠ 120) ∨ (mb ≠ g ∧ ∃ c f, MapAt Tryz.prog 3 litI w g c f)) : Turns G w' tb mb key m := by
 obtain ⟨f', c', t1, t2, t3, t4⟩ := h
 refine ⟨f', c', hp.row t1 (fun e => ?_), t2.other (hp.block mb t2.lt (fun e => ?_)), t3, fun e v he => ?_⟩
 · rcases hH _ e with ⟨e1, xs, hr, h1, h2⟩ | ⟨hne, c, f, hmm⟩
   · exact Row.ne t1 hr (fun e => h1 e.symm) rfl
   · exact hmm.ne t1 rfl
 · rcases hH _ e with ⟨e1, xs, hr, h1, h2⟩ | ⟨hne, c, f, hmm⟩
   · exact t2.ne hr rfl
   · exact hne rfl
 · obtain ⟨x, hx, hg, hrx⟩ := t4 e v he
   refine ⟨x, hx, hg, hp.row hrx (fun e => ?_)⟩
   rcases hH _ e with ⟨e1, xs, hr, h1, h2⟩ | ⟨hne, c, f, hmm⟩
   · exact Row.ne hrx hr (fun e => h2 e.symm) rfl
   · exact hmm.ne hrx rfl
theorem inNextR {w : World} {ib : Nat} {a b c : Value} {n : Nat} (h : Row w ib 75 [a, b, .int .i64 (n : Int), c]) :
 Calls Tryz.prog 16 #[.pointer (some ⟨ib, 0, none⟩)] w fun e w' => e = .returned (.int .i64 (n : Int)) ∧ w' = w := by
 have c2 := h.cell 2 (by simp)
 simp at c2
 clear h
 go_enter Tryz.func16, Tryz.ntmps16
 go_wp2_with (go_at_call 30; refine (load64 _ _ _ c2).mono ?_; rintro e w1 ⟨rfl, rfl⟩)
 go_ret
 exact ⟨rfl, rfl⟩
def tellM (ib n : Nat) (w : World) : Nat := match w.cell? ⟨ib, 2, none⟩ with | some v => n - (intOf v).toNat | none => 0
theorem infoSt : (Tryz.prog.info? 9).map (fun i => (i.zero, i.size, i.bytes)) = some (some (.string ⟨#[]⟩), 1, 16) := by kernel_rfl
end Go.Proofs.YtoakccknimoogaaGreat
set_option linter.unusedSimpArgs false
set_option linter.unusedVariables false
namespace Go.Proofs.YtoakccknimoogaaGreat
open Go.RowKit Go.Esc
theorem cell_one_newS (w : World) (x : Value) (t : TypeId) : ∀ j u, [x][j]? = some u → (w.alloc (.cells #[x] t)).cell? ((⟨w.heap.size, 0, none⟩ : Addr).add j) = some u := by
 intro j u hj
 match j, hj with
 | 0, hj =>
   simp at hj
   subst hj
   simp [Addr.add]
theorem cutF_at {f : Nat → Option Bs} {n : Nat} : cutF f n n = f n := by unfold cutF; rw [if_neg (by omega)]
theorem open_final {G : Nat → Prop} {w w3 w4 w5 w6 wr : World} {ib tb mb wb lb ab : Nat} {am : Option Nat} {key : Bs} {m : Nat} {s s' : InS} {xs : List Value} {out : List Bs} {v : Value} {f5 f6 : Nat → Option Value} {c5 c5' : Nat}
 (hp12 : Pu w w3) (hdom : ∀ g, G g → g < w.heap.size) (H0 : InP G w ib tb mb wb lb am key m s) (H4 : InP (Gw G w3 w4) w4 ib tb mb wb lb am key (m + 1) s) (hcg4 : Cg G w w4) (hcg5 : Cg (fun g => g = wb ∨ am = some g) w4 w5) (hab : am = some ab ∨ w4.heap.size ≤ ab ∧ ab < w5.heap.size)
 (hw5 : WinAt w5 wb (some ab) s'.n s'.f s'.c) (hr5 : Row w5 ib 75 xs) (hl5 : MapAt Tryz.prog 3 litI w5 lb c5 f5) (hg6 : w5.grownBy w6 (some lb)) (hl6 : MapAt Tryz.prog 3 litI w6 lb c5' f6) (hcg : Cg (fun g => g = ib ∨ g = lb) w6 wr)
 (hrow : Row wr ib 75 [.pointer (some ⟨tb, 0, none⟩), .pointer (some ⟨wb, 0, none⟩), .int .i64 (s'.n : Int), .map (some lb)]) (hmap : MapAt Tryz.prog 3 litI wr lb s'.c (textV s'.f)) (hown : wr.ownsRow w6.heap.size 9 1 v out.length (out.map S)) (hok : s'.Ok) (hc : s'.c ≤ m + 1) :
 OpenR G w wr ib key m (0, out, s') v := by
 have hs4 : w.heap.size ≤ w4.heap.size := hcg4.size
 have hs5 := hcg5.size
 have hs6 := hg6.size
 have hsr := hcg.size
 have hlbw := H0.l.lt
 have hmbw : mb < w.heap.size := by obtain ⟨f, c, -, t2, -, -⟩ := H0.turns; exact t2.lt
 have hab2 : ab ≠ mb ∧ ab ≠ lb := by
  rcases hab with h | h
  · exact ⟨fun e => H4.nma (by rw [h, e]), fun e => H4.nla (by rw [h, e])⟩
  · constructor <;> omega
 have hwbr := hw5.row
 have nwl := hl5.ne hwbr
 have nwi := Row.ne hwbr hr5 (by decide)
 have T5 : Turns (Gw G w3 w4) w5 tb mb key (m+1) := H4.turns.step' hcg5 (fun g hg => by
  rcases hg with rfl | hg
  · exact .inl ⟨_, _, H4.win.row, by decide, by decide⟩
  · exact .inr ⟨fun e => H4.nma (by rw [hg, e]), _, _, H4.win.map g hg⟩)
 have T6 : Turns (Gw G w3 w4) w6 tb mb key (m+1) := T5.step' ((Cg.refl (fun g => g = lb) w5).grown hg6 rfl) (fun g hg => by
  subst hg
  exact .inr ⟨H4.nml, _, _, hl5⟩)
 have hr6 := hr5.grown hg6 (by have := hl5.ne hr5; simp; omega)
 have T7 : Turns (Gw G w3 w4) wr tb mb key (m+1) := T6.step hcg hr6 hl6 H4.nml
 have W6 := hw5.grown hg6 (by omega) (by have := hab2.2; simp; omega)
 have W7 := W6.cg hcg (by rintro (e | e); exact nwi e; exact nwl e.symm) (fun ab' ha => by
  cases ha
  rintro (e | e)
  · exact (W6.map ab rfl).ne hr6 e
  · exact hab2.2 e)
 have C5 : Cg G w w5 := hcg4.andThen hcg5 (fun g hg => by
  rcases hg with rfl | hg
  · exact .inl H0.gw
  · exact .inl (H0.ga g hg))
 have C6 : Cg G w w6 := C5.grown hg6 H0.gl
 have C7 : Cg G w wr := C6.andThen hcg (fun g hg => by
  rcases hg with rfl | rfl
  · exact .inl H0.gi
  · exact .inl H0.gl)
 have hgab : Gw G w wr ab := by
  rcases hab with h | h
  · exact .inl (H0.ga ab h)
  · exact .inr ⟨by omega, by omega⟩
 have ho : wr.ownsRow w.heap.size 9 1 v out.length (out.map S) := by
  refine ⟨hown.1, ?_⟩
  rcases hown.2 with hn | ⟨g, cap, cur, hv, hg, rest⟩
  · exact .inl hn
  · exact .inr ⟨g, cap, cur, hv, by omega, rest⟩
 have hP : InP (Gw G w wr) wr ib tb mb wb lb (some ab) key (m+1) s' :=
  ⟨hrow, T7.mono (fun g hg => by
   rcases hg with h | h
   · exact .inl h
   · exact .inr ⟨Nat.le_trans hp12.size h.1, by omega⟩), W7, hmap, .inl H0.gt, .inl H0.gm, .inl H0.gw, .inl H0.gl, .inl H0.gi, fun ab' ha => by cases ha; exact hgab, H4.nml, by have := hab2.1; simp; omega, by have := hab2.2; simp; omega, Gw.dom hdom C7.size, hok, hc⟩
 exact ⟨ho, ⟨tb, mb, wb, lb, some ab, hP.avoid ho⟩, C7⟩
set_option maxRecDepth 100000 in
set_option maxHeartbeats 3200000 in
theorem openOk {G : Nat → Prop} {w : World} {ib : Nat} {key : Bs} {m : Nat} {s : InS} (h : InAt G w ib key m s) (hk : key.length = 32) (hm : m ≤ 90000) (b t : Bs) (hb : ¬ badForm b) (hb2 : b.length ≤ 90000) (hold : ¬ (beN (b.take 8) < s.n ∨ s.n + 64 ≤ beN (b.take 8) ∨ (s.f (beN (b.take 8))).isSome = true)) (hpl : plainL key (beN (b.take 8)) b = some t)
 (out : List Bs) (hrun : IsRun (updF s.f (beN (b.take 8)) (some t)) s.n out) :
 Calls Tryz.prog 12 #[.pointer (some ⟨ib, 0, none⟩), S b] w fun e w' => ∃ v, e = .returned (.tuple #[v, .int .i64 0]) ∧ OpenR G w w' ib key m (0, out, ⟨s.n + out.length, cutF (updF s.f (beN (b.take 8)) (some t)) (s.n + out.length), s.c + 1 - out.length⟩) v := by
 obtain ⟨tb, mb, wb, lb, am, h⟩ := h
 obtain ⟨is0, his, hsz, hss, hsb⟩ := info_parts infoSt
 have hn := h.ok.n
 have hkey := h.ok.key
 unfold badForm at hb
 obtain ⟨q, hq⟩ : ∃ v, v = beN (b.take 8) := ⟨_, rfl⟩
 rw [← hq] at hold hb hpl hrun ⊢
 have hB := fun w => big (b.take 8) w (by simp; omega)
 rw [← hq] at hB
 have hfq : s.f q = none := by
  cases hf : s.f q with
  | none => rfl
  | some x => exfalso; rw [hf] at hold; simp at hold
 have hq1 : s.n ≤ q := by omega
 have hq2 : q < s.n + 64 := by omega
 have hM := fun w' (hp : Pu w w') => winMay (h.win.pu hp) q (by omega) (by omega)
 rw [decide_eq_true ⟨hq1, hq2, by rw [hfq]; rfl⟩] at hM
 have hO := fun w' (hp : Pu w w') => inOpened (h.cg (H := fun _ => False) (Cg.ofPu hp) (fun _ h => h.elim)) hk q b (by omega) (by omega) hb2 (by omega)
 rw [hpl] at hO
 have hlow : ∀ k, k < s.n → s.f k = none := fun k hkn => by
  cases hf : s.f k with
  | none => rfl
  | some x => have := hkey k (by rw [hf]; rfl); omega
 have hc9 := h.c
 have hokn := ok_step h.ok (t := t) (out := out) hq2 (by omega) hrun (s.c + 1 - out.length)
 have hol : out.length ≤ 400 := by have := hokn.n; simp only at this; omega
 have hTk := fun w' (hw : WinAt w' wb am s.n s.f s.c) => winTake hw q t out hq1 hq2 hfq (by omega) (by omega) hlow hrun hol
 obtain ⟨f', hf'⟩ : ∃ f', f' = updF s.f q (some t) := ⟨_, rfl⟩
 rw [← hf'] at hTk hrun hokn ⊢
 have HOKN := Lib.hid hokn
 clear hokn
 have hrow := h.row
 have hC1 : ∀ w', Pu w w' → w'.cell? ⟨ib, 1, none⟩ = some (.pointer (some ⟨wb, 0, none⟩)) := fun w' hp => by have := (hrow.pu hp).cell 1 (by simp); simpa using this
 have c0 := hrow.cell 0 (by simp)
 simp at c0
 have k1 : ¬ (b.length : Int) < 24 := by omega
 have k2 : ¬ (400 : Int) ≤ q := by omega
 have k3 : (8 : Int) ≤ b.length := by omega
 have hcm : s.c < maxLen := by unfold maxLen; omega
 have HB := Lib.hid hB
 have HM := Lib.hid hM
 have HC1 := Lib.hid hC1
 have HO := Lib.hid hO
 have HTK := Lib.hid hTk
 have HH := Lib.hid h
 have HF := Lib.hid hf'
 have HRUN := Lib.hid hrun
 have HKEY := Lib.hid hkey
 have HLOW := Lib.hid hlow
 have HFQ := Lib.hid hfq
 have k4 : (q : Int) < 400 := by omega
 clear hB hM hC1 h hrow hold hb hq hO hpl hTk hf' hrun hkey hlow hfq
 have T1 := Lib.hid True.intro
 go_enter Tryz.func12, Tryz.ntmps12
 go_wp2_with (first
  | (go_at_call 31; clear T1; refine (HB.out _).mono ?_; rintro e w1 ⟨rfl, hp1⟩)
  | (go_at_call 31; refine (HB.out _).mono ?_; rintro e w2 ⟨rfl, hp2⟩; have hp12 := hp1.trans hp2; have c1 := HC1.out _ hp12)
  | (go_at_call 32; refine (HM.out _ hp12).mono ?_; rintro e w3 ⟨rfl, rfl⟩)
  | (go_at_call 33; refine (HO.out _ hp12).mono ?_; rintro e w4 ⟨rfl, ht4, hb4⟩
     have h4 := (HH.out.cg (H := fun _ => False) (Cg.ofPu hp12) (fun _ h => h.elim)).turned ht4 hb4
     have c41 := h4.row.cell 1 (by simp)
     simp at c41
     have hcg4 : Cg G w w4 := (Cg.ofPu hp12).andThen (H := G) (Cg.ofBut hb4 HH.out.gm) (fun g hg => .inl hg)
     have hw4 : w.heap.size ≤ w4.heap.size := hcg4.size
     clear ht4)
  | (go_at_call 34; refine (HTK.out _ h4.win).mono ?_; rintro e w5 ⟨rfl, hcg5, ab, hab5, hwin5⟩
     have hr5 := hcg5.row h4.row (by rintro (e | e); exact Row.ne h4.row h4.win.row (by decide) e; exact (h4.win.map _ e).ne h4.row rfl)
     have hl5 := h4.l.other (hcg5.block lb h4.l.lt (by rintro (e | e); exact h4.l.ne h4.win.row e; exact h4.nla e))
     have c53 := hr5.cell 3 (by simp)
     simp at c53)
  | (at_mapUpdate; refine wpList_map_set _ rfl _ _ _ 73 rfl 9 keyInt Tryz.underlying73 lb s.c _ rfl hl5 hcm q (by omega) rfl (S t) rfl ?_; intro w6 hm6 hg6))
 have hnl := hl5.ne hr5
 have hl6 : MapAt Tryz.prog 3 litI w6 lb (s.c + 1) (textV f') := by
  have e1 : (textV s.f q).isSome = false := by unfold textV; rw [HFQ.out]; rfl
  rw [e1, textV_upd, ← HF.out] at hm6
  exact hm6
 have hr6 := hr5.grown hg6 (by simp; omega)
 have hcutf : cutF f' s.n = f' := by rw [HF.out]; exact cutF_low (updF_low HLOW.out hq1)
 have hstart : ∃ j : Nat, j ≤ out.length ∧ Row w6 ib 75 [.pointer (some ⟨tb, 0, none⟩), .pointer (some ⟨wb, 0, none⟩), .int .i64 ((s.n + j : Nat) : Int), .map (some lb)] ∧ MapAt Tryz.prog 3 litI w6 lb (s.c + 1 - j) (textV (cutF f' (s.n + j))) ∧ w6.ownsRow w6.heap.size 9 1 (.slice none 0 0) j ((out.take j).map S) ∧ Cg (fun g => g = ib ∨ g = lb) w6 w6 :=
  ⟨0, Nat.zero_le _, hr6, by simpa only [Nat.add_zero, Nat.sub_zero, hcutf] using hl6, World.ownsRow_nil _ _ _ _, Cg.refl _ _⟩
 have cN : ∀ args w, (callFunc 16 args).run Tryz.prog w = .ok (.enter 16 args) w := fun args w => run_callFunc_body Tryz.func16 (by kernel_rfl) (by kernel_rfl) args w
 have HSTART := Lib.hid hstart
 have HCUT := Lib.hid hcutf
 have HG6 := Lib.hid hg6
 have HL5 := Lib.hid hl5
 have HR5 := Lib.hid hr5
 have HL6 := Lib.hid hl6
 have HR6 := Lib.hid hr6
 have HCG5 := Lib.hid hcg5
 have HWIN5 := Lib.hid hwin5
 have H4 := Lib.hid h4
 have HCG4 := Lib.hid hcg4
 have HAB := Lib.hid hab5
 clear hstart hcutf hm6 hl6 hr6 hg6 hl5 hr5 hcg5 hwin5 h4 hcg4 hab5 c0 c1 c41 c53 k1 k2 k3 HM HB HC1 HO HTK
 go_wp2_with fail
 (try dsimp only [Act.put])
 go_loopw [9] (fun v wr => ∃ j : Nat, j ≤ out.length ∧ Row wr ib 75 [.pointer (some ⟨tb, 0, none⟩), .pointer (some ⟨wb, 0, none⟩), .int .i64 ((s.n + j : Nat) : Int), .map (some lb)] ∧ MapAt Tryz.prog 3 litI wr lb (s.c + 1 - j) (textV (cutF f' (s.n + j))) ∧ wr.ownsRow w6.heap.size 9 1 v j ((out.take j).map S) ∧ Cg (fun g => g = ib ∨ g = lb) w6 wr) (fun _ wr => tellM ib (s.n + out.length) wr)
 case atStart => exact HSTART.out
 case round =>
  obtain ⟨j, hj, hrow, hmap, hown, hcg⟩ := hrel
  obtain ⟨N, hN⟩ : ∃ N, N = s.n + j := ⟨_, rfl⟩
  have hcl : ∀ w', Pu wr w' → w'.cell? ⟨ib, 3, none⟩ = some (.map (some lb)) := fun w' hp => by have := (hrow.pu hp).cell 3 (by simp); simpa using this
  have hnx := fun w' (hp : Pu wr w') => inNextR (hrow.pu hp)
  have hlk : ∀ w', Pu wr w' → (Instr.lookup 73 (.map (some lb)) (.int .i64 (N : Int)) true).run Tryz.prog w' = .ok (.tuple #[((f' N).map S).getD (.string ⟨#[]⟩), .bool ((f' N).map S).isSome]) w' := fun w' hp => by
   have h1 := (hmap.pu hp).get2 keyInt Tryz.underlying73 (zeroStr w') N (by omega)
   have e9 : textV (cutF f' (s.n + j)) N = (f' N).map S := by rw [hN]; unfold textV; rw [cutF_at]
   rw [e9] at h1
   exact h1
  rw [← hN] at hnx hrow hmap
  by_cases hjl : j < out.length
  · obtain ⟨tj, htj⟩ : ∃ tj, tj = out[j] := ⟨_, rfl⟩
    have e1 : f' N = some tj := by rw [hN, HRUN.out.1 j hjl, List.getElem?_eq_getElem hjl, htj]
    rw [e1] at hlk
    simp only [Option.map_some, Option.getD_some, Option.isSome_some] at hlk
    obtain ⟨va, vc, rfl, hvl⟩ := own_slice hown
    have HCL := Lib.hid hcl
    have HNX := Lib.hid hnx
    have HLK := Lib.hid hlk
    have HROW := Lib.hid hrow
    have HMAP := Lib.hid hmap
    have HOWN := Lib.hid hown
    have HTJ := Lib.hid htj
    have HE1 := Lib.hid e1
    have HN := Lib.hid hN
    clear hcl hnx hlk hrow hmap hown htj e1 hN
    go_wp2_with fail
    apply region_pu (Φs := (Is _ :: Is _ :: Is _ :: Is _ :: Is _ :: Is _ :: Is _ :: Is _ :: Is _ :: Is _ :: Is _ :: Is _ :: [])) (hm := by kernel_rfl) (hE := by kernel_rfl) (hD := by kernel_rfl) (hsize := by kernel_rfl)
    case hop =>
     refine ⟨?_, ?_, ?_, ?_, ?_, ?_, ?_, ?_, ?_, ?_, ?_, ?_, trivial⟩
     · intro a' w' hs hp he
       have e0 := hs 0 (by kernel_rfl)
       try simp [Is, Region.binds] at he
       exact op_v
     · intro a' w' hs hp he
       try simp [Is, Region.binds] at he
       exact op_v
     · intro a' w' hs hp he
       try simp [Is, Region.binds] at he
       exact op_v
     · intro a' w' hs hp he
       try simp [Is, Region.binds] at he
       have hc := HCL.out _ hp; exact op_val rfl (wanted_none rfl) (by first | (go_simp; done) | (go_simp; rfl)) rfl (Pu.refl _)
     · intro a' w' hs hp he
       have e0 := hs 0 (by kernel_rfl)
       try simp [Is, Region.binds] at he
       exact op_v
     · intro a' w' hs hp he
       try simp [Is, Region.binds] at he
       exact op_callV (HNX.out _ hp) rfl (wanted_none rfl) (by first | (go_simp; done) | (go_simp; rfl)) rfl
     · intro a' w' hs hp he
       try simp [Is, Region.binds] at he
       have hlk := HLK.out _ hp; exact op_val rfl (wanted_none rfl) (by first | (go_simp; done) | (go_simp; rfl)) rfl (Pu.refl _)
     · intro a' w' hs hp he
       try simp [Is, Region.binds] at he
       exact op_v
     · intro a' w' hs hp he
       try simp [Is, Region.binds] at he
       exact op_v
     · intro a' w' hs hp he
       try simp [Is, Region.binds] at he
       exact op_v
     · intro a' w' hs hp he
       try simp [Is, Region.binds] at he
       exact op_v
     · intro a' w' hs hp he
       try simp [Is, Region.binds] at he
       exact op_v
    case hend =>
     intro a' w' hdef hsz hs hp hall
     obtain ⟨r0, r1, r2, r3, r4, r5, r6, r7, r8, r9, r10, r11, -⟩ := hall
     have hA := agree_done (agree_step (agree_step (agree_step (agree_step (agree_step (agree_step (agree_step (agree_step (agree_step (agree_step (agree_step (agree_step (agree_init [63, 64, 65, 66, 67, 68, 69, 62, 70, 71, 10, 11] hsz hs (by kernel_rfl)) r0) r1) r2) r3) r4) r5) r6) r7) r8) r9) r10) r11)
     have ha := act_of hA hdef
     rw [ha]
     clear ha hA hs hsz hdef r0 r1 r2 r3 r4 r5 r6 r7 r8 r9 r10 r11 
     (try simp only [List.setIfInBounds_toArray])
     (try dsimp only [List.set_cons_zero, List.set_cons_succ])
     (try simp only [Exit.then])
     rename World => wa
     have HP6 := Lib.hid hp
     clear hp
     go_wp2_with fail
     have hcl' : ∀ w'', Pu wa w'' → w''.cell? ⟨ib, 3, none⟩ = some (.map (some lb)) := fun w'' hp => HCL.out w'' (HP6.out.trans hp)
     have hnx' := fun w'' (hp : Pu wa w'') => HNX.out w'' (HP6.out.trans hp)
     have HCL2 := Lib.hid hcl'
     have HNX2 := Lib.hid hnx'
     have hcc : (if (textV (cutF f' N) N).isSome then s.c + 1 - j - 1 else s.c + 1 - j) = s.c + 1 - (j + 1) := by
      rw [if_pos (by unfold textV; rw [cutF_at, HE1.out]; rfl)]
      omega
     have HCC := Lib.hid hcc
     clear hcl' hnx' hcc
     apply region_last (n := 6) (hn := by kernel_rfl) (hlast := rfl) (hU := by kernel_rfl) (Φs := (Is _ :: Is _ :: Is _ :: Is _ :: Is _ :: Is _ :: [])) (hm := by kernel_rfl) (hE := by kernel_rfl) (hD := by kernel_rfl) (hsize := by kernel_rfl)
     case hop =>
      refine ⟨?_, ?_, ?_, ?_, ?_, ?_, trivial⟩
      · intro a' w' hs hp he
        have e0 := hs 0 (by kernel_rfl)
        try simp [Is, Region.binds] at he
        exact op_v
      · intro a' w' hs hp he
        try simp [Is, Region.binds] at he
        exact op_v
      · intro a' w' hs hp he
        try simp [Is, Region.binds] at he
        exact op_v
      · intro a' w' hs hp he
        try simp [Is, Region.binds] at he
        have hc := HCL2.out _ hp; exact op_val rfl (wanted_none rfl) (by first | (go_simp; done) | (go_simp; rfl)) rfl (Pu.refl _)
      · intro a' w' hs hp he
        have e0 := hs 0 (by kernel_rfl)
        try simp [Is, Region.binds] at he
        exact op_v
      · intro a' w' hs hp he
        try simp [Is, Region.binds] at he
        exact op_callV (HNX2.out _ hp) rfl (wanted_none rfl) (by first | (go_simp; done) | (go_simp; rfl)) rfl
     case hend =>
      intro a' w' hdef hsz hs hp hall
      obtain ⟨r0, r1, r2, r3, r4, r5, -⟩ := hall
      have hA := agree_done (agree_step (agree_step (agree_step (agree_step (agree_step (agree_step (agree_init [75, 76, 77, 78, 79, 80] hsz hs (by kernel_rfl)) r0) r1) r2) r3) r4) r5)
      have ha := act_of hA hdef
      rw [ha]
      clear ha hA hs hsz hdef r0 r1 r2 r3 r4 r5 
      (try simp only [List.setIfInBounds_toArray])
      (try dsimp only [List.set_cons_zero, List.set_cons_succ])
      (try simp only [Exit.then])
      obtain ⟨w8, hrun8, hm8, hg8⟩ := ((HMAP.out.pu HP6.out).pu hp).del keyInt Tryz.underlying73 N (by have := HN.out; omega) 0; change (Builtin.delete_ #[73, 3] 0 #[.map (some lb), .int .i64 (N : Int)]).run Tryz.prog w' = .ok (.tuple #[]) w8 at hrun8; refine op_run rfl (wanted_none rfl) (by first | (go_simp; done) | (go_simp; exact ⟨rfl, rfl⟩) | (go_simp; rfl)) ?_
      (try simp only [Exit.inBlock, Exit.then])
      rw [HCC.out, textV_cut] at hm8
      have hrow8 := ((HROW.out.pu HP6.out).pu hp).grown hg8 (by simp; omega)
      have c28 := hrow8.cell 2 (by simp)
      have f28 := hrow8.frozen 2 (by simp)
      simp at c28
      have hown8 := (own_pu (own_pu HOWN.out HP6.out) hp).kept hg8 (by
       cases ho : (Value.slice va j vc).ownBlock with
       | none => exact .inl rfl
       | some g9 =>
         refine .inr fun e9 => ?_
         cases e9
         have := (hvl _ ho).1
         have := HL6.out.lt
         omega)
      have hn9 : ib ≠ lb := by omega
      have hown9 : (w8.setCell ⟨ib, 2, none⟩ (.int .i64 ((N : Int) + 1))).ownsRow w6.heap.size 9 1 (.slice va j vc) j ((out.take j).map S) := ownsRow_setCell_below hown8 (a := ⟨ib, 2, none⟩) (by have := HR6.out.lt; simpa using this) _
      have hr9 := hrow8.set 2 (.int .i64 ((N : Int) + 1))
      simp at hr9
      have hm9 := hm8.other (w' := w8.setCell ⟨ib, 2, none⟩ (.int .i64 ((N : Int) + 1))) (Below.heap_setCell _ _ _ _ (by simp; omega))
      have hcg9 : Cg (fun g => g = ib ∨ g = lb) w6 (w8.setCell ⟨ib, 2, none⟩ (.int .i64 ((N : Int) + 1))) := (((hcg.pu HP6.out).pu hp).grown hg8 (.inr rfl)).andThen (H := fun g => g = ib ∨ g = lb) (Cg.ofBut (But.set _ _ _) (.inl rfl)) (fun g hg => .inl hg)
      have hb9 : w6.heap.size ≤ (w8.setCell ⟨ib, 2, none⟩ (.int .i64 ((N : Int) + 1))).heap.size := hcg9.size
      have hcel := cell_one_newS (w8.setCell ⟨ib, 2, none⟩ (.int .i64 ((N : Int) + 1))) (S tj) 9
      rw [show (w8.setCell ⟨ib, 2, none⟩ (.int .i64 ((N : Int) + 1))).heap.size = w8.heap.size by simp] at hcel
      have HCEL := Lib.hid hcel
      clear hcel
      have HR9 := Lib.hid hr9
      have HM9 := Lib.hid hm9
      have HOWN9 := Lib.hid hown9
      have HCG9 := Lib.hid hcg9
      clear hown8 hm8 hrow8 hg8 hown9 hr9 hm9 hcg9 hrun8 hp
      (try dsimp only [Act.put])
      go_wp2_with (first
       | (go_at_call 24; refine (add64 _ _ _ (by have := HN.out; omega) c28 f28).mono ?_; rintro e w9 ⟨rfl, rfl⟩)
       | (at_builtin; refine wpList_append_own_at _ rfl _ _ 31 rfl w6.heap.size 9 is0 (.string ⟨#[]⟩) 1 16 Tryz.underlying31 his hsz hss hsb rfl (by decide) (.slice va j vc) j _ rfl (HOWN9.out.alloc _) ⟨_, 0, none⟩ 1 1 [S tj] rfl rfl HCEL.out (by simp [Value.oneCell']) (by unfold maxLen; omega) (by omega) (by simp at hb9 ⊢; omega) ?_; intro v' w10 ho10 hg10 _ hat10))
      go_roundw
      case rel =>
       have e9 : s.n + (j + 1) = N + 1 := by have := HN.out; omega
       have hne : ∀ g, g < w6.heap.size → (Value.slice va j vc).ownBlock ≠ some g := fun g hg e => by have := (hvl g e).1; omega
       refine ⟨j + 1, by omega, ?_, ?_, ?_, ?_⟩
       · rw [e9]
         have := (HR9.out.alloc (.cells #[S tj] 9)).grown hg10 (fun e => hne ib HR6.out.lt e.symm)
         exact this
       · rw [e9]
         exact (HM9.out.pu ((Pu.refl _).alloc (.cells #[S tj] 9))).other (hg10.block lb (by have := HM9.out.lt; simp at this ⊢; omega) (fun e => hne lb HL6.out.lt e.symm))
       · have h9 : (out.take (j+1)).map S = (out.take j).map S ++ [S tj] := by
          rw [List.take_succ_eq_append_getElem hjl, List.map_append, HTJ.out]; rfl
         rw [h9]; exact ho10
       · exact (HCG9.out.pu ((Pu.refl _).alloc (.cells #[S tj] 9))).grown' hg10 (fun g e => .inr (hvl g e).1)
      case measure =>
       have cw0 := HROW.out.cell 2 (by simp)
       simp at cw0
       have hne : ∀ g, g < w6.heap.size → (Value.slice va j vc).ownBlock ≠ some g := fun g hg e => by have := (hvl g e).1; omega
       have cz := ((HR9.out.alloc (.cells #[S tj] 9)).grown hg10 (fun e => hne ib HR6.out.lt e.symm)).cell 2 (by simp)
       simp at cz
       have := HN.out
       simp only [tellM, cw0, cz, intOf]
       omega
  · obtain rfl : j = out.length := by omega
    have e1 : f' N = none := by rw [hN]; exact HRUN.out.2
    rw [e1] at hlk
    simp only [Option.map_none, Option.getD_none, Option.isSome_none] at hlk
    have HCL := Lib.hid hcl
    have HNX := Lib.hid hnx
    have HLK := Lib.hid hlk
    have HROW := Lib.hid hrow
    have HMAP := Lib.hid hmap
    have HOWN := Lib.hid hown
    have HN := Lib.hid hN
    clear hcl hnx hlk hrow hmap hown e1 hN
    go_wp2_with fail
    apply region_pu (Φs := (Is _ :: Is _ :: Is _ :: Is _ :: Is _ :: Is _ :: Is _ :: Is _ :: Is _ :: Is _ :: Is _ :: Is _ :: [])) (hm := by kernel_rfl) (hE := by kernel_rfl) (hD := by kernel_rfl) (hsize := by kernel_rfl)
    case hop =>
     refine ⟨?_, ?_, ?_, ?_, ?_, ?_, ?_, ?_, ?_, ?_, ?_, ?_, trivial⟩
     · intro a' w' hs hp he
       have e0 := hs 0 (by kernel_rfl)
       try simp [Is, Region.binds] at he
       exact op_v
     · intro a' w' hs hp he
       try simp [Is, Region.binds] at he
       exact op_v
     · intro a' w' hs hp he
       try simp [Is, Region.binds] at he
       exact op_v
     · intro a' w' hs hp he
       try simp [Is, Region.binds] at he
       have hc := HCL.out _ hp; exact op_val rfl (wanted_none rfl) (by first | (go_simp; done) | (go_simp; rfl)) rfl (Pu.refl _)
     · intro a' w' hs hp he
       have e0 := hs 0 (by kernel_rfl)
       try simp [Is, Region.binds] at he
       exact op_v
     · intro a' w' hs hp he
       try simp [Is, Region.binds] at he
       exact op_callV (HNX.out _ hp) rfl (wanted_none rfl) (by first | (go_simp; done) | (go_simp; rfl)) rfl
     · intro a' w' hs hp he
       try simp [Is, Region.binds] at he
       have hlk := HLK.out _ hp; exact op_val rfl (wanted_none rfl) (by first | (go_simp; done) | (go_simp; rfl)) rfl (Pu.refl _)
     · intro a' w' hs hp he
       try simp [Is, Region.binds] at he
       exact op_v
     · intro a' w' hs hp he
       try simp [Is, Region.binds] at he
       exact op_v
     · intro a' w' hs hp he
       try simp [Is, Region.binds] at he
       exact op_v
     · intro a' w' hs hp he
       try simp [Is, Region.binds] at he
       exact op_v
     · intro a' w' hs hp he
       try simp [Is, Region.binds] at he
       exact op_v
    case hend =>
     intro a' w' hdef hsz hs hp hall
     obtain ⟨r0, r1, r2, r3, r4, r5, r6, r7, r8, r9, r10, r11, -⟩ := hall
     have hA := agree_done (agree_step (agree_step (agree_step (agree_step (agree_step (agree_step (agree_step (agree_step (agree_step (agree_step (agree_step (agree_step (agree_init [63, 64, 65, 66, 67, 68, 69, 62, 70, 71, 10, 11] hsz hs (by kernel_rfl)) r0) r1) r2) r3) r4) r5) r6) r7) r8) r9) r10) r11)
     have ha := act_of hA hdef
     rw [ha]
     clear ha hA hs hsz hdef r0 r1 r2 r3 r4 r5 r6 r7 r8 r9 r10 r11 
     (try simp only [List.setIfInBounds_toArray])
     (try dsimp only [List.set_cons_zero, List.set_cons_succ])
     (try simp only [Exit.then])
     go_wp2_with fail
     go_ret2
     have e9 := HN.out
     refine ⟨_, rfl, open_final hp12 HH.out.dom HH.out H4.out HCG4.out HCG5.out HAB.out HWIN5.out HR5.out HL5.out HG6.out HL6.out (hcg.pu hp) ?_ ?_ ?_ HOKN.out ?_⟩
     · have := HROW.out.pu hp
       rw [e9] at this; exact this
     · have := HMAP.out.pu hp
       rw [e9] at this; exact this
     · have := own_pu HOWN.out hp
       rw [List.take_length] at this; exact this
     · simp only; omega
end Go.Proofs.YtoakccknimoogaaGreat
namespace Go.Esc
open Go Go.RowKit Go.Proofs.YtoakccknimoogaaGreat
theorem beN_putB8' (v : Nat) (h : v < 1000000) : beN (putB v 8) = v := by
 simp only [putB, beN, List.foldl_cons, List.foldl_nil, UInt8.toNat_ofNat']
 omega
theorem beN_putB2 (v : Nat) (h : v < 65536) : beN (putB v 2) = v := by
 simp only [putB, beN, List.foldl_cons, List.foldl_nil, UInt8.toNat_ofNat']
 omega
theorem unpad_pad {b p : Bs} (h : padL b = some p) : unpadL p = some b := by
 have h0 := h
 unfold padL at h
 cases hs : padSize (b.length : Int) with
 | none => rw [hs] at h; cases h
 | some s =>
   rw [hs] at h
   simp only [Option.map_some, Option.some.injEq] at h
   have hl := padSize_some hs
   have h2 : (putB b.length 2).length = 2 := putB_length _ _
   have hpl : p.length = 2 + b.length + (s - 2 - b.length) := by rw [← h]; simp [h2]; omega
   have ht : p.take 2 = putB b.length 2 := by
    rw [← h, List.append_assoc, List.take_append_of_le_length (by omega), List.take_of_length_le (by omega)]
   have hn : beN (p.take 2) = b.length := by rw [ht, beN_putB2 _ (by omega)]
   have ho : (p.take (2 + b.length)).drop 2 = b := by
    rw [← h, List.take_append_of_le_length (by simp [h2]), List.take_of_length_le (by simp [h2]), List.drop_append_of_le_length (by omega), List.drop_of_length_le (by omega), List.nil_append]
   unfold unpadL
   rw [if_neg (by omega)]
   simp only [hn]
   rw [if_neg (by omega), ho, if_pos h0]
theorem recL_take (key : Bs) (q : Nat) (p : Bs) : (recL key q p).take 8 = putB q 8 := by
 unfold recL
 rw [List.take_append_of_le_length (by rw [putB_length]; exact Nat.le_refl _), List.take_of_length_le (by rw [putB_length]; exact Nat.le_refl _)]
theorem recL_drop (key : Bs) (q : Nat) (p : Bs) : (recL key q p).drop 8 = sealL (turnL key (q / 8)) (nonceL q) ((padL p).getD []) (putB q 8) := by
 unfold recL
 rw [List.drop_append_of_le_length (by rw [putB_length]; exact Nat.le_refl _), List.drop_of_length_le (by rw [putB_length]; exact Nat.le_refl _), List.nil_append]
theorem recL_length (key : Bs) (q : Nat) (p : Bs) : (recL key q p).length = ((padL p).getD []).length + 24 := by
 unfold recL
 rw [List.length_append, putB_length, sealL_length]; omega
theorem recL_num (key : Bs) (q : Nat) (p : Bs) (hq : q < 1000000) : beN ((recL key q p).take 8) = q := by rw [recL_take, beN_putB8' q hq]
theorem recL_form (key : Bs) (q : Nat) (p : Bs) (hq : q < 400) : ¬ badForm (recL key q p) := by
 unfold badForm
 rw [recL_num key q p (by omega), recL_length]
 omega
theorem plainL_recL (key : Bs) (q : Nat) (p pp : Bs) (hk : key.length = 32) (hp : padL p = some pp) : plainL key q (recL key q p) = some p := by
 unfold plainL
 rw [recL_take, recL_drop, hp]
 simp only [Option.getD_some]
 rw [open_seal _ _ _ _ (fine_turn key (q / 8) q hk)]
 exact unpad_pad hp
/-- A record that was sealed under the key comes. -/
theorem openS_recL (key : Bs) (s : InS) (q : Nat) (p pp : Bs) (hk : key.length = 32) (hp : padL p = some pp) (hq : q < 400) :
 openS key s (recL key q p) = if q < s.n ∨ s.n + 64 ≤ q ∨ (s.f q).isSome = true then (4, [], s) else
  (0, runF (updF s.f q (some p)) s.n 1000, ⟨s.n + (runF (updF s.f q (some p)) s.n 1000).length, cutF (updF s.f q (some p)) (s.n + (runF (updF s.f q (some p)) s.n 1000).length), s.c + 1 - (runF (updF s.f q (some p)) s.n 1000).length⟩) := by
 unfold openS
 rw [if_neg (recL_form key q p hq), recL_num key q p (by omega)]
 simp only
 rw [plainL_recL key q p pp hk hp]
theorem openS_run (key : Bs) (s : InS) (q : Nat) (p pp : Bs) (hk : key.length = 32) (hp : padL p = some pp) (hq : q < 400) (h1 : s.n ≤ q) (h2 : q < s.n + 64) (h3 : s.f q = none) (out : List Bs) (hr : IsRun (updF s.f q (some p)) s.n out) (hs : s.Ok) :
 openS key s (recL key q p) = (0, out, ⟨s.n + out.length, cutF (updF s.f q (some p)) (s.n + out.length), s.c + 1 - out.length⟩) := by
 rw [openS_recL key s q p pp hk hp hq, if_neg (by rw [h3]; simp; omega)]
 have hend : updF s.f q (some p) (s.n + 1000) = none := by
  unfold updF
  rw [if_neg (by omega)]
  cases hf : s.f (s.n + 1000) with
  | none => rfl
  | some x => have := hs.key (s.n + 1000) (by rw [hf]; rfl); omega
 have := hr.uniq (runF_is _ 1000 s.n hend)
 rw [← this]
theorem openS_ok (key : Bs) (s : InS) (b : Bs) (hs : s.Ok) : (openS key s b).2.2.Ok := by
 unfold openS
 split
 · exact hs
 · next hb =>
   simp only
   split
   · exact hs
   · next hold =>
     split
     · exact hs
     · next t ht =>
       have hend : updF s.f (beN (b.take 8)) (some t) (s.n + 1000) = none := by
        unfold updF
        rw [if_neg (by omega)]
        cases hf : s.f (s.n + 1000) with
        | none => rfl
        | some x => have := hs.key (s.n + 1000) (by rw [hf]; rfl); omega
       unfold badForm at hb
       exact ok_step hs (by omega) (by omega) (runF_is _ 1000 s.n hend) _
/-- Records in order. -/
def inOrd (n : Nat) : InS := ⟨n, fun _ => none, 0⟩
theorem inOrd_ok (n : Nat) (h : n ≤ 400) : (inOrd n).Ok := ⟨fun k hk => (by cases hk), h⟩
end Go.Esc
set_option linter.unusedSimpArgs false
set_option linter.unusedVariables false
namespace Go.Proofs.YtoakccknimoogaaGreat
open Go.RowKit Go.Esc
theorem inOpen {G : Nat → Prop} {w : World} {ib : Nat} {key : Bs} {m : Nat} {s : InS} (h : InAt G w ib key m s) (hk : key.length = 32) (hm : m ≤ 90000) (b : Bs) (hb2 : b.length ≤ 90000) :
 Calls Tryz.prog 12 #[.pointer (some ⟨ib, 0, none⟩), S b] w fun e w' => ∃ v, e = .returned (.tuple #[v, .int .i64 ((openS key s b).1 : Int)]) ∧ OpenR G w w' ib key m (openS key s b) v := by
 have h' := h
 obtain ⟨tb, mb, wb, lb, am, hP⟩ := h'
 by_cases hb : badForm b
 · refine (openBad h b hb hb2).mono ?_
   rintro e w' ⟨rfl, hp⟩
   have e9 : openS key s b = (2, [], s) := by unfold openS; rw [if_pos hb]
   rw [e9]
   exact ⟨_, rfl, openNone hP hp 2⟩
 · by_cases hold : beN (b.take 8) < s.n ∨ s.n + 64 ≤ beN (b.take 8) ∨ (s.f (beN (b.take 8))).isSome = true
   · refine (openOld h b hb hb2 hold).mono ?_
     rintro e w' ⟨rfl, hp⟩
     have e9 : openS key s b = (4, [], s) := by unfold openS; rw [if_neg hb]; simp only; rw [if_pos hold]
     rw [e9]
     exact ⟨_, rfl, openNone hP hp 4⟩
   · cases hpl : plainL key (beN (b.take 8)) b with
     | none =>
       refine (openSeal h hk (by omega) b hb hb2 hold hpl).mono ?_
       rintro e w' ⟨rfl, hr⟩
       have e9 : openS key s b = (3, [], s) := by unfold openS; rw [if_neg hb]; simp only; rw [if_neg hold, hpl]
       rw [e9]
       exact ⟨_, rfl, hr⟩
     | some t =>
       have hs := hP.ok
       have hend : updF s.f (beN (b.take 8)) (some t) (s.n + 1000) = none := by
        unfold updF
        rw [if_neg (by unfold badForm at hb; omega)]
        cases hf : s.f (s.n + 1000) with
        | none => rfl
        | some x => have := hs.key (s.n + 1000) (by rw [hf]; rfl); omega
       have e9 : openS key s b = (0, runF (updF s.f (beN (b.take 8)) (some t)) s.n 1000, ⟨s.n + (runF (updF s.f (beN (b.take 8)) (some t)) s.n 1000).length, cutF (updF s.f (beN (b.take 8)) (some t)) (s.n + (runF (updF s.f (beN (b.take 8)) (some t)) s.n 1000).length), s.c + 1 - (runF (updF s.f (beN (b.take 8)) (some t)) s.n 1000).length⟩) := by unfold openS; rw [if_neg hb]; simp only; rw [if_neg hold, hpl]
       rw [e9]
       exact openOk h hk hm b t hb hb2 hold hpl _ (runF_is _ 1000 s.n hend)
theorem fillL_length (s : Bs) (n : Nat) : (fillL s n).length = n := by unfold fillL; simp; omega
/-- Fill, of however many bytes. -/
theorem fillAny (s : Bs) (n : Nat) (hs : s.length ≤ 9223372036854775807) (hn : n ≤ 100000) (w : World) :
 Calls Tryz.prog 6 #[S s, .int .i64 (n : Int)] w fun e w' => e = .returned (S (fillL s n)) ∧ w' = w := by
 by_cases h : s.length ≤ n
 · exact fill s n h hn w
 · have hlt' : decide ((s.length : Int) < n) = false := by simp; omega
   have hle : (n : Int) ≤ s.length := by omega
   have hfin : fillL s n = s.take n := by unfold fillL; rw [List.take_append_of_le_length (by omega)]
   have HF := Lib.hid hfin
   clear hfin
   go_enter Tryz.func6, Tryz.ntmps6
   go_wp2_with fail
   go_loop [0] (fun v => v = S s) (fun _ => 0)
   case atStart => rfl
   case round =>
    obtain rfl := hrel
    go_wp2_with fail
    go_ret
    exact ⟨by rw [HF.out]; rfl, rfl⟩
theorem padL_short {p : Bs} (h : p.length ≤ 2046) : ∃ pp, padL p = some pp := by
 unfold padL
 rcases (by omega : (p.length : Int) ≤ 30 ∨ (31 ≤ (p.length : Int) ∧ (p.length : Int) ≤ 126) ∨ (127 ≤ (p.length : Int) ∧ (p.length : Int) ≤ 510) ∨ (511 ≤ (p.length : Int) ∧ (p.length : Int) ≤ 2046)) with k | k | k | k
 · rw [padSize_32 (by omega) k]; exact ⟨_, rfl⟩
 · rw [padSize_128 k.1 k.2]; exact ⟨_, rfl⟩
 · rw [padSize_512 k.1 k.2]; exact ⟨_, rfl⟩
 · rw [padSize_2048 k.1 k.2]; exact ⟨_, rfl⟩
theorem recL_le (key : Bs) (q : Nat) {p pp : Bs} (hp : padL p = some pp) : (recL key q p).length ≤ 2072 ∧ 24 ≤ (recL key q p).length := by
 have := padL_le hp
 rw [recL_length, hp]
 simp only [Option.getD_some]; omega
theorem OpenR.frame {G H : Nat → Prop} {w w' : World} {ib : Nat} {key : Bs} {m : Nat} {r : Nat × List Bs × InS} {v : Value} (_ : OpenR G w w' ib key m r v) (hH : ∀ g, H g → g < w.heap.size) (hd : ∀ g, G g → ¬ H g) : ∀ g, (Gw G w w' g ∧ v.ownBlock ≠ some g) → ¬ H g := fun g hg hh => by
 rcases hg.1 with h1 | h1
 · exact hd g h1 hh
 · have := hH g hh; omega
end Go.Proofs.YtoakccknimoogaaGreat
