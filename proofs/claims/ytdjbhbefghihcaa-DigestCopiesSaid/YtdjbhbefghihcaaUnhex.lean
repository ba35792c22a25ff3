/- octet.Unhex of digits that are some bytes'. -/
import Derived.Test.YtdjbhbefghihcaaHex
import Derived.Test.YtdjbhbefghihcaaRegionW
set_option linter.unusedSimpArgs false
set_option linter.unusedVariables false
namespace Go.Esc
open Go Go.RowKit
theorem wpList_append_mine {P : Program} {ops : Array Oper} {rest : List Oper} {o : Oper} {a : Act} {w : World} {Q : Exit → Act → World → Prop} (hgd : o.guard = none) (s x : Operand) (t : TypeId)
    (ho : o.op = .call { callee := .builtin .append, args := #[s, x], argTypes := #[t, t] })
    (base : Nat) (e : TypeId) (i : TypeInfo) (z : Value) (size bytes : Nat) (ht : P.underlying t = some (.slice e)) (hi : P.info? e = some i) (hz : i.zero = some z)
    (hsize : i.size = size) (hby : i.bytes = bytes) (hzs : z.cells.size = size) (hsz : 0 < size)
    (v : Value) (n : Nat) (xs : List Value) (hs : a.eval s = v) (hown : w.ownsRow base e size v n xs)
    (ad : Addr) (m c : Nat) (news : List Value) (hx : a.eval x = .slice (some ad) m c) (hl : news.length = m * size) (hnews : ∀ j u, news[j]? = some u → w.cell? (ad.add j) = some u) (h1 : ∀ u ∈ news, u.oneCell' = true)
    (h63 : n + m ≤ maxLen) (hbytes : (n + m) * bytes ≤ 140737488355328) (hbase : base ≤ w.heap.size)
    (h : ∀ v' w', w'.ownsRow base e size v' (n + m) (xs ++ news) → w.grownBy w' v.ownBlock → wpList P ops Q rest (a.put o.dst v') w') : wpList P ops Q (o :: rest) a w :=
  wpList_plain hgd fun K hK => wp_append_own w s x t ho base e i z size bytes ht hi hz hsize hby hzs hsz v n xs hs hown ad m c news hx hl hnews h1 h63 hbytes hbase fun v' w' h2 h3 _ => hK _ _ (h v' w' h2 h3)
theorem own_pu {B : Nat} {e : TypeId} {k : Nat} {v : Value} {n : Nat} {xs : List Value} {w w' : World} (h : w.ownsRow B e k v n xs) (hb : Pu w w') : w'.ownsRow B e k v n xs :=
  h.kept (row := none) ⟨hb.os, hb.tape, hb.output, hb.size, fun j hj _ => hb.block j hj⟩ (by cases hv : v.ownBlock <;> simp)
theorem hex_length (l : Bs) : (hex l).length = 2 * l.length := by
  induction l with
  | nil => rfl
  | cons c l ih => simp only [hex, List.flatMap_cons, List.length_append, List.length_cons, List.length_nil] at *; omega
theorem hex_get (l : Bs) (j : Nat) (h : j < l.length) : (hex l).getD (2 * j) 0 = hexD.getD (l[j].toNat / 16) 0 ∧ (hex l).getD (2 * j + 1) 0 = hexD.getD (l[j].toNat % 16) 0 := by
  induction l generalizing j with
  | nil => simp at h
  | cons c l ih =>
    have e : hex (c :: l) = [hexD.getD (c.toNat / 16) 0, hexD.getD (c.toNat % 16) 0] ++ hex l := rfl
    cases j with
    | zero => simp [e]
    | succ j =>
      have := ih j (by simpa using h)
      rw [e, show 2 * (j + 1) = 2 * j + 2 by omega]
      simpa [List.getD_eq_getElem?_getD] using this
theorem or_digits (a b : Nat) (ha : a < 16) (hb : b < 16) : Go.bits .or .i64 ((a : Int) * 16) (b : Int) = ((16 * a + b : Nat) : Int) := by
  have : ∀ a b : Fin 16, Go.bits .or .i64 (((a.1 : Nat) : Int) * 16) ((b.1 : Nat) : Int) = ((16 * a.1 + b.1 : Nat) : Int) := by decide +kernel
  exact this ⟨a, ha⟩ ⟨b, hb⟩
end Go.Esc
namespace Go.Proofs.Ytdjbhbefghihcaa
open Go.RowKit Go.Esc
set_option maxRecDepth 100000 in
set_option maxHeartbeats 1600000 in
theorem unhex (l : Bs) (h0 : 0 < l.length) (hm : l.length ≤ 1000) (w : World) :
    Calls Try.prog 139 #[S (hex l)] w fun e w' => e = .returned (.tuple #[S l, .bool true]) ∧ Pu w w' := by
  obtain ⟨i0, hi, hz0, hz1, hz2⟩ := info_parts infoB
  obtain ⟨h, hh⟩ : ∃ h, h = hex l := ⟨_, rfl⟩
  have hlen : h.length = 2 * l.length := by rw [hh, hex_length]
  rw [← hh]
  have HH := Lib.hid hh
  have hrem : ((h.length : Int)).tmod 2 = 0 := by rw [hlen, Int.tmod_eq_emod_of_nonneg (by omega)]; omega
  have hquo : ((h.length : Int)).tdiv 2 = l.length := by rw [hlen, Int.tdiv_eq_ediv_of_nonneg (by omega)]; omega
  clear hh
  go_enter Try.func139, Try.ntmps139
  go_wp2_with (at_make; refine wpList_make_own _ rfl _ _ 27 rfl w.heap.size 5 i0 (.int .u8 0) 1 Try.underlying27 hi hz0 hz1 _ _ _ l.length rfl rfl rfl (by rw [hz2]; omega) (by unfold maxLen; omega) (Nat.le_refl _) ?_; intro w1 hown hgrow)
  have hbel0 : Below w.heap.size w w1 := (Below.refl _ _).grown hgrow (Nat.le_refl _) (by simp)
  have hcall : ∀ args w, (callFunc 158 args).run Try.prog w = .ok (.enter 158 args) w := fun args w => run_callFunc_body Try.func158 (by kernel_rfl) (by kernel_rfl) args w
  clear hrem hquo
  go_loopw [4, 5] (fun v i wr => ∃ j : Nat, j ≤ l.length ∧ i = .int .i64 (2 * (j : Int)) ∧ wr.ownsRow w.heap.size 5 1 v j (cells (l.take j)) ∧ Below w.heap.size w wr) (fun _ i _ => 2 * l.length - (intOf i).toNat)
  case atStart => exact ⟨0, by omega, rfl, hown, hbel0⟩
  case round =>
    clear hown hgrow hbel0
    obtain ⟨j, hj, rfl, hown, hbel⟩ := hrel
    obtain ⟨va, vc, rfl, hlt'⟩ := own_slice hown
    by_cases hlt : j < l.length
    · obtain ⟨c, hc⟩ : ∃ c, c = l[j] := ⟨_, rfl⟩
      obtain ⟨q1, q2⟩ := hex_get l j hlt
      rw [← HH.out, ← hc] at q1 q2
      obtain ⟨k1, hk1⟩ : ∃ k, k = c.toNat / 16 := ⟨_, rfl⟩
      obtain ⟨k2, hk2⟩ : ∃ k, k = c.toNat % 16 := ⟨_, rfl⟩
      have hcl := c.toNat_lt
      have hk1l : k1 < 16 := by omega
      have hk2l : k2 < 16 := by omega
      have hD1 := fun w => digit k1 hk1l w
      have hD2 := fun w => digit k2 hk2l w
      rw [← hk1] at q1
      rw [← hk2] at q2
      rw [← q1] at hD1
      rw [← q2] at hD2
      have b1 : 2 * j < h.length := by omega
      have b2 : 2 * j + 1 < h.length := by omega
      have g1 : h[2 * j] = h.getD (2 * j) 0 := by rw [List.getD_eq_getElem?_getD, List.getElem?_eq_getElem]; rfl
      have g2 : h[2 * j + 1] = h.getD (2 * j + 1) 0 := by rw [List.getD_eq_getElem?_getD, List.getElem?_eq_getElem]; rfl
      obtain ⟨d1, hd1⟩ : ∃ d, d = h.getD (2 * j) 0 := ⟨_, rfl⟩
      obtain ⟨d2, hd2⟩ : ∃ d, d = h.getD (2 * j + 1) 0 := ⟨_, rfl⟩
      rw [← hd1] at g1 hD1
      rw [← hd2] at g2 hD2
      have ho : Go.bits .or .i64 ((k1 : Int) * 16) (k2 : Int) = (c.toNat : Int) := by rw [or_digits k1 k2 hk1l hk2l]; congr 1; omega
      have hw : IntKind.u8.wrap (c.toNat : Int) = c.toNat := by rw [IntKind.wrap_u8]; omega
      have n1 : decide ((k1 : Int) < 0) = false := by simp
      have n2 : decide ((k2 : Int) < 0) = false := by simp
      have p0 : (0 : Int) ≤ 2 * j := by omega
      have p1 : (0 : Int) ≤ 2 * j + 1 := by omega
      have p2 : (2 : Int) * j < h.length := by omega
      have p3 : (2 : Int) * j + 1 < h.length := by omega
      have p4 : ((2 : Int) * j).toNat = 2 * j := by omega
      have p5 : ((2 : Int) * j + 1).toNat = 2 * j + 1 := by omega
      have p6 : IntKind.i64.wrap ((2 : Int) * j + 1) = 2 * j + 1 := by rw [IntKind.wrap_i64]; omega
      have p7 : IntKind.i64.wrap ((2 : Int) * j + 2) = 2 * j + 2 := by rw [IntKind.wrap_i64]; omega
      have p8 : IntKind.i64.wrap ((k1 : Int) * 16) = k1 * 16 := by rw [IntKind.wrap_i64]; omega
      have HD1 := Lib.hid hD1
      have HD2 := Lib.hid hD2
      have HC := Lib.hid hc
      have HLEN := Lib.hid hlen
      clear hD1 hD2 hc hk1 hk2 q1 q2 hd1 hd2 hlen
      go_wp2_with fail
      apply region_pu (Φs := (Is _ :: Is _ :: Is _ :: Is _ :: Is _ :: Is _ :: Is _ :: Is _ :: Is _ :: Is _ :: Is _ :: [])) (hm := by kernel_rfl) (hE := by kernel_rfl) (hD := by kernel_rfl) (hsize := by kernel_rfl)
      case hop =>
        refine ⟨?_, ?_, ?_, ?_, ?_, ?_, ?_, ?_, ?_, ?_, ?_, trivial⟩
        · intro a' w' hs hp he
          have e0 := hs 0 (by kernel_rfl)
          try simp [Is, Region.binds] at he
          exact op_val rfl (wanted_none rfl) (by first | (go_simp; done) | (go_simp; rfl) | (simp [execOp, Act.eval, go_sem, *]; done) | (simp [execOp, Act.eval, go_sem, *]; rfl)) rfl (Pu.refl _)
        · intro a' w' hs hp he
          have e5 := hs 5 (by kernel_rfl)
          try simp [Is, Region.binds] at he
          exact op_val rfl (wanted_none rfl) (by first | (go_simp; done) | (go_simp; rfl) | (simp [execOp, Act.eval, go_sem, *]; done) | (simp [execOp, Act.eval, go_sem, *]; rfl)) rfl (Pu.refl _)
        · intro a' w' hs hp he
          try simp [Is, Region.binds] at he
          exact op_val rfl (wanted_none rfl) (by first | (go_simp; done) | (go_simp; rfl) | (simp [execOp, Act.eval, go_sem, *]; done) | (simp [execOp, Act.eval, go_sem, *]; rfl)) rfl (Pu.refl _)
        · intro a' w' hs hp he
          try simp [Is, Region.binds] at he
          exact op_callV (HD1.out _) rfl (wanted_none rfl) (by first | (go_simp; done) | (go_simp; rfl)) rfl
        · intro a' w' hs hp he
          have e0 := hs 0 (by kernel_rfl)
          try simp [Is, Region.binds] at he
          exact op_val rfl (wanted_none rfl) (by first | (go_simp; done) | (go_simp; rfl) | (simp [execOp, Act.eval, go_sem, *]; done) | (simp [execOp, Act.eval, go_sem, *]; rfl)) rfl (Pu.refl _)
        · intro a' w' hs hp he
          have e5 := hs 5 (by kernel_rfl)
          try simp [Is, Region.binds] at he
          exact op_val rfl (wanted_none rfl) (by first | (go_simp; done) | (go_simp; rfl) | (simp [execOp, Act.eval, go_sem, *]; done) | (simp [execOp, Act.eval, go_sem, *]; rfl)) rfl (Pu.refl _)
        · intro a' w' hs hp he
          try simp [Is, Region.binds] at he
          exact op_val rfl (wanted_none rfl) (by first | (go_simp; done) | (go_simp; rfl) | (simp [execOp, Act.eval, go_sem, *]; done) | (simp [execOp, Act.eval, go_sem, *]; rfl)) rfl (Pu.refl _)
        · intro a' w' hs hp he
          try simp [Is, Region.binds] at he
          exact op_val rfl (wanted_none rfl) (by first | (go_simp; done) | (go_simp; rfl) | (simp [execOp, Act.eval, go_sem, *]; done) | (simp [execOp, Act.eval, go_sem, *]; rfl)) rfl (Pu.refl _)
        · intro a' w' hs hp he
          try simp [Is, Region.binds] at he
          exact op_callV (HD2.out _) rfl (wanted_none rfl) (by first | (go_simp; done) | (go_simp; rfl)) rfl
        · intro a' w' hs hp he
          try simp [Is, Region.binds] at he
          exact op_val rfl (wanted_none rfl) (by first | (go_simp; done) | (go_simp; rfl) | (simp [execOp, Act.eval, go_sem, *]; done) | (simp [execOp, Act.eval, go_sem, *]; rfl)) rfl (Pu.refl _)
        · intro a' w' hs hp he
          try simp [Is, Region.binds] at he
          exact op_val rfl (wanted_none rfl) (by first | (go_simp; done) | (go_simp; rfl) | (simp [execOp, Act.eval, go_sem, *]; done) | (simp [execOp, Act.eval, go_sem, *]; rfl)) rfl (Pu.refl _)
      case hend =>
        intro a' w' hdef hsz hs hp hall
        obtain ⟨r0, r1, r2, r3, r4, r5, r6, r7, r8, r9, r10, -⟩ := hall
        have hA := agree_done (agree_step (agree_step (agree_step (agree_step (agree_step (agree_step (agree_step (agree_step (agree_step (agree_step (agree_step (agree_init [22, 23, 24, 25, 26, 27, 28, 29, 30, 6, 7] hsz hs (by kernel_rfl)) r0) r1) r2) r3) r4) r5) r6) r7) r8) r9) r10)
        have ha := act_of hA hdef
        rw [ha]
        clear ha hA hs hsz hdef r0 r1 r2 r3 r4 r5 r6 r7 r8 r9 r10 
        (try simp only [List.setIfInBounds_toArray])
        (try dsimp only [List.set_cons_zero, List.set_cons_succ])
        (try simp only [Exit.then])
        replace hown := own_pu hown hp
        have hbw := hbel.size
        have hpw := hp.size
        have hbel2 := hbel.trans (Below.mono hp hbel.size)
        go_wp2_with (refine wpList_append_mine rfl (.tmp 37) (.tmp 43) 27 rfl w.heap.size 5 i0 (.int .u8 0) 1 1 Try.underlying27 hi hz0 hz1 hz2 rfl (by decide) (.slice va j vc) j (cells (l.take j)) (by rfl) (hown.alloc _) ⟨w'.heap.size, 0, none⟩ 1 1 [.int .u8 (c.toNat : Int)] (by rfl) rfl (by intro j u hj; match j, hj with | 0, hj => simp at hj; subst hj; simp [Addr.add]) (by simp [Value.oneCell']) (by unfold maxLen; omega) (by omega) (by simp; omega) ?_; intro v2 w2 hown2 hgrow2)
        go_roundw
        case rel =>
          refine ⟨j + 1, by omega, by rw [show (2 : Int) * ((j + 1 : Nat) : Int) = 2 * j + 2 by omega], ?_, (hbel2.alloc (by omega) _).grown hgrow2 (by simp; omega) (fun k hk => (hlt' k hk).1)⟩
          rw [List.take_succ_eq_append_getElem hlt, ← HC.out]
          simpa [cells, B] using hown2
        case measure => simp [intOf]; omega
    · obtain rfl : j = l.length := by omega
      obtain ⟨g, cap, hv, -, -⟩ := own_form hown h0
      simp only [Value.slice.injEq] at hv
      obtain ⟨rfl, -, rfl⟩ := hv
      rw [List.take_length] at hown
      have hcv := own_conv (P := Try.prog) 27 9 hown Try.underlying27 Try.underlying5 Try.underlying9
      have hnl : decide (2 * (l.length : Int) < h.length) = false := by simp; omega
      have HLEN := Lib.hid hlen
      clear hlen
      go_wp2_with fail
      go_ret2
      exact ⟨rfl, hbel⟩
end Go.Proofs.Ytdjbhbefghihcaa
