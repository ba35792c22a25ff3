/- octet.Hex. -/
import Derived.Test.YtdjbhbefghihcaaUnhex
import Derived.Test.YtdjbhbefghihcaaRegionG
import Derived.Deep.DeepAppendRoom
set_option linter.unusedSimpArgs false
set_option linter.unusedVariables false
namespace Go.Esc
open Go Go.RowKit
/-- The value is v, which owns a row. -/
def IsOwn (v : Value) (base e n : Nat) (xs : List Value) : Value → World → Prop := fun u w => u = v ∧ w.ownsRow base e 1 v n xs
instance (v : Value) (base e n : Nat) (xs : List Value) : Stable (IsOwn v base e n xs) := ⟨fun _ _ _ h hp => ⟨h.1, own_pu h.2 hp⟩⟩
theorem grown_but {g : Nat} {w w' : World} (h : w.grownBy w' (some g)) : But g w w' := ⟨h.os, h.tape, h.output, h.size, fun k hk hg => h.block k hk (by simpa using hg)⟩
section
variable {P : Program} {ops : Array Oper} {Q : Exit → Act → World → Prop}
theorem op_appendB {g : Nat} {Φ : Value → World → Prop} {i : Nat} {o : Oper} {a' : Act} {w' : World} (ho : ops[i]? = some o) (hgd : o.guard = none) (s x : Operand) (t : TypeId)
    (hop : o.op = .call { callee := .builtin .append, args := #[s, x], argTypes := #[t, t] })
    (base : Nat) (e : TypeId) (ii : TypeInfo) (ht : P.underlying t = some (.slice e)) (hi : P.info? e = some ii) (hsize : ii.size = 1)
    (n cap : Nat) (xs : List Value) (hs : a'.eval s = .slice (some ⟨g, 0, none⟩) n cap) (hown : w'.ownsRow base e 1 (.slice (some ⟨g, 0, none⟩) n cap) n xs)
    (ad : Addr) (m c : Nat) (news : List Value) (hx : a'.eval x = .slice (some ad) m c) (hl : news.length = m * 1) (hnews : ∀ j u, news[j]? = some u → w'.cell? (ad.add j) = some u) (h1 : ∀ u ∈ news, u.oneCell' = true)
    (hroom : n + m ≤ cap)
    (hφ : ∀ w'', w''.ownsRow base e 1 (.slice (some ⟨g, 0, none⟩) (n + m) cap) (n + m) (xs ++ news) → Φ (if o.dst.isSome then .slice (some ⟨g, 0, none⟩) (n + m) cap else undef) w'') :
    wpOp P ops Q i (fun a'' w'' => ∃ v, a'' = a'.put o.dst v ∧ Φ (if o.dst.isSome then v else undef) w'' ∧ But g w' w'') a' w' := by
  unfold wpOp
  simp only [ho, wanted_none hgd, if_true]
  refine .inl ?_
  exact wp_append_own_spare _ s x t hop base e ii 1 ht hi hsize g n cap xs hs hown ad m c news hx hl hnews h1 hroom fun w'' h2 h3 => ⟨_, rfl, hφ _ h2, grown_but h3⟩
end
theorem and15 (c : UInt8) : Go.bits .and .u8 (c.toNat : Int) 15 = ((c.toNat % 16 : Nat) : Int) := by
  have : ∀ n : Fin 256, Go.bits .and .u8 ((n.1 : Nat) : Int) 15 = ((n.1 % 16 : Nat) : Int) := by decide +kernel
  exact this ⟨c.toNat, c.toNat_lt⟩
theorem hex_snoc (l : Bs) (j : Nat) (h : j < l.length) : hex (l.take (j + 1)) = hex (l.take j) ++ [hexD.getD (l[j].toNat / 16) 0, hexD.getD (l[j].toNat % 16) 0] := by
  rw [List.take_succ_eq_append_getElem h, hex, List.flatMap_append]; rfl
end Go.Esc
namespace Go.Proofs.Ytdjbhbefghihcaa
open Go.RowKit Go.Esc
set_option maxRecDepth 100000 in
set_option maxHeartbeats 1600000 in
theorem hexOf (l : Bs) (hm : l.length ≤ 1000) (w : World) :
    Calls Try.prog 79 #[S l] w fun e w' => e = .returned (S (hex l)) ∧ Pu w w' := by
  obtain ⟨i0, hi, hz0, hz1, hz2⟩ := info_parts infoB
  obtain ⟨hd, hhd⟩ : ∃ l, l = hexD := ⟨_, rfl⟩
  have hlen : hd.length = 16 := by rw [hhd]; rfl
  have hk0 : (ByteArray.mk #[48, 49, 50, 51, 52, 53, 54, 55, 56, 57, 97, 98, 99, 100, 101, 102]) = bs hd := by rw [hhd]; rfl
  have HHD := Lib.hid hhd
  obtain ⟨C, hC⟩ : ∃ C, C = 2 * l.length := ⟨_, rfl⟩
  have hw2 : IntKind.i64.wrap ((2 : Int) * l.length) = C := by rw [IntKind.wrap_i64]; omega
  have hC1 : C ≤ 2000 := by omega
  have HC := Lib.hid hC
  clear hhd hC
  go_enter Try.func79, Try.ntmps79
  go_wp2_with (first
    | (at_make; refine wpList_make_own _ rfl _ _ 27 rfl w.heap.size 5 i0 (.int .u8 0) 1 Try.underlying27 hi hz0 hz1 _ _ _ C rfl rfl rfl (by rw [hz2]; omega) (by unfold maxLen; omega) (Nat.le_refl _) ?_; intro w1 hown hgrow)
    | (refine wpList_bytes _ rfl (.tmp 10) 9 27 5 rfl l (by first | rfl | simp [Act.eval]) Try.underlying9 Try.underlying27 Try.underlying5 ?_; intro w2 cap hrow hpu hcap))
  have hbel0 : Below w.heap.size w w2 := ((Below.refl _ _).grown hgrow (Nat.le_refl _) (by simp)).trans (Below.mono hpu hgrow.size)
  have hown1 := own_pu hown hpu
  have hg0 : w.heap.size < w1.heap.size := by
    have := (hown.lt w.heap.size rfl); omega
  go_loopw [3, 13] (fun v i wr => ∃ j : Nat, j ≤ l.length ∧ v = .slice (some ⟨w.heap.size, 0, none⟩) (2 * j) C ∧ i = .int .i64 (j : Int) ∧ wr.ownsRow w.heap.size 5 1 (.slice (some ⟨w.heap.size, 0, none⟩) (2 * j) C) (2 * j) (cells (hex (l.take j))) ∧ Row wr w1.heap.size 5 (cells l) ∧ Below w.heap.size w wr) (fun _ i _ => l.length - (intOf i).toNat)
  case atStart => exact ⟨0, by omega, rfl, rfl, hown1, hrow, hbel0⟩
  case round =>
    clear hown1 hown hgrow hrow hpu hbel0
    obtain ⟨j, hj, rfl, rfl, hown, hrow, hbel⟩ := hrel
    by_cases hlt : j < l.length
    · obtain ⟨c, hc⟩ : ∃ c, c = l[j] := ⟨_, rfl⟩
      have hcc := Row.byte hrow j hlt
      rw [← hc] at hcc
      obtain ⟨k1, hk1⟩ : ∃ k, k = c.toNat / 16 := ⟨_, rfl⟩
      obtain ⟨k2, hk2⟩ : ∃ k, k = c.toNat % 16 := ⟨_, rfl⟩
      have hcl := c.toNat_lt
      have hk1l : k1 < hd.length := by omega
      have hk2l : k2 < hd.length := by omega
      have hk1i : (k1 : Int) < 16 := by omega
      have hk2i : (k2 : Int) < 16 := by omega
      have hgw := (hown.lt w.heap.size rfl).2
      have q1 : (c.toNat : Int) / 16 = (k1 : Int) := by omega
      have q2 : Go.bits .and .u8 (c.toNat : Int) 15 = (k2 : Int) := by rw [and15, hk2]
      obtain ⟨a1, ha1⟩ : ∃ d, hd[k1] = d := ⟨_, rfl⟩
      obtain ⟨a2, ha2⟩ : ∃ d, hd[k2] = d := ⟨_, rfl⟩
      have hsn := hex_snoc l j hlt
      rw [← hc, ← hk1, ← hk2] at hsn
      have b1 : hexD.getD k1 0 = a1 := by rw [← ha1, List.getD_eq_getElem?_getD, ← HHD.out, List.getElem?_eq_getElem hk1l]; rfl
      have b2 : hexD.getD k2 0 = a2 := by rw [← ha2, List.getD_eq_getElem?_getD, ← HHD.out, List.getElem?_eq_getElem hk2l]; rfl
      rw [b1, b2] at hsn
      have HSN := Lib.hid hsn
      have hjc : 2 * j + 2 ≤ C := by rw [HC.out]; omega
      clear hc hk1 hk2 hsn b1 b2
      go_wp2_with fail
      apply region_writer (g := w.heap.size) (n := 9) (hn := by kernel_rfl) (hlast := rfl) (hU := by kernel_rfl) (Φ1 := (Is _ :: Is _ :: Is _ :: Is _ :: Is _ :: Is _ :: Is _ :: IsRowN w.heap.size 5 2 (.int .u8 (a1.toNat : Int) :: .int .u8 (a2.toNat : Int) :: []) :: [])) (Φm := IsOwn (.slice (some ⟨w.heap.size, 0, none⟩) (2 * j + 2) C) w.heap.size 5 (2 * j + 2) (cells (hex (l.take (j + 1))))) (Φ2 := ([])) (hm := by kernel_rfl) (hE := by kernel_rfl) (hD := by kernel_rfl) (hsize := by kernel_rfl)
      case hop =>
        refine ⟨?_, ?_, ?_, ?_, ?_, ?_, ?_, ?_, ?_, trivial⟩
        · intro a' w' hs hp he
          have hp : But w.heap.size _ w' := hp
          have e3 := hs 3 (by kernel_rfl)
          try simp [Is, Region.binds] at he
          exact op_val rfl (wanted_none rfl) (by first | (go_simp; done) | (go_simp; rfl) | (simp [execOp, Act.eval, go_sem, *]; done) | (simp [execOp, Act.eval, go_sem, *]; rfl)) rfl (Pu.refl _)
        · intro a' w' hs hp he
          have hp : But w.heap.size _ w' := hp
          have e5 := hs 5 (by kernel_rfl)
          try simp [Is, Region.binds] at he
          exact op_val rfl (wanted_none rfl) (by first | (go_simp; done) | (go_simp; rfl) | (simp [execOp, Act.eval, go_sem, *]; done) | (simp [execOp, Act.eval, go_sem, *]; rfl)) rfl (Pu.refl _)
        · intro a' w' hs hp he
          have hp : But w.heap.size _ w' := hp
          try simp [Is, Region.binds] at he
          exact op_val rfl (wanted_none rfl) (by first | (go_simp; done) | (go_simp; rfl) | (simp [execOp, Act.eval, go_sem, *]; done) | (simp [execOp, Act.eval, go_sem, *]; rfl)) rfl (Pu.refl _)
        · intro a' w' hs hp he
          have hp : But w.heap.size _ w' := hp
          try simp [Is, Region.binds] at he
          exact op_val rfl (wanted_none rfl) (by first | (go_simp; done) | (go_simp; rfl) | (simp [execOp, Act.eval, go_sem, *]; done) | (simp [execOp, Act.eval, go_sem, *]; rfl)) rfl (Pu.refl _)
        · intro a' w' hs hp he
          have hp : But w.heap.size _ w' := hp
          have e5 := hs 5 (by kernel_rfl)
          try simp [Is, Region.binds] at he
          exact op_val rfl (wanted_none rfl) (by first | (go_simp; done) | (go_simp; rfl) | (simp [execOp, Act.eval, go_sem, *]; done) | (simp [execOp, Act.eval, go_sem, *]; rfl)) rfl (Pu.refl _)
        · intro a' w' hs hp he
          have hp : But w.heap.size _ w' := hp
          try simp [Is, Region.binds] at he
          exact op_val rfl (wanted_none rfl) (by first | (go_simp; done) | (go_simp; rfl) | (simp [execOp, Act.eval, go_sem, *]; done) | (simp [execOp, Act.eval, go_sem, *]; rfl)) rfl (Pu.refl _)
        · intro a' w' hs hp he
          have hp : But w.heap.size _ w' := hp
          try simp [Is, Region.binds] at he
          exact op_val rfl (wanted_none rfl) (by first | (go_simp; done) | (go_simp; rfl) | (simp [execOp, Act.eval, go_sem, *]; done) | (simp [execOp, Act.eval, go_sem, *]; rfl)) rfl (Pu.refl _)
        · intro a' w' hs hp he
          have hp : But w.heap.size _ w' := hp
          try simp [Is, Region.binds] at he
          exact op_val rfl (wanted_none rfl) (by first | (go_simp; done) | (go_simp; rfl)) ⟨_, _, rfl, Row.new _ #[.int .u8 (a1.toNat : Int), .int .u8 (a2.toNat : Int)] _, by have := hp.size; omega⟩ ((Pu.refl _).alloc _)
        · intro a' w' hs hp he
          have hp : Pu _ w' := hp
          try simp [Is, Region.binds] at he
          obtain ⟨h17, g, cp, hv, hr7, -⟩ := he; refine op_appendB rfl rfl (.tmp 17) (.tmp 24) 27 rfl w.heap.size 5 i0 Try.underlying27 hi hz1 (2 * j) C (cells (hex (l.take j))) (by simpa [Act.eval] using h17) (own_pu hown hp) ⟨g, 0, none⟩ 2 cp [.int .u8 (a1.toNat : Int), .int .u8 (a2.toNat : Int)] (by simpa [Act.eval] using hv) rfl (by intro j u hj; have := hr7.cell' j (by have := (List.getElem?_eq_some_iff.1 hj).1; exact this); rw [show (⟨g, 0, none⟩ : Addr).add j = ⟨g, j, none⟩ by unfold Addr.add; split <;> simp_all, this]; exact hj) (by simp [Value.oneCell']) hjc (fun w'' h => ⟨rfl, by rw [HSN.out]; simpa [cells, B] using h⟩)
      case hend =>
        intro a' w' hdef hsz hs hp hall
        obtain ⟨r0, r1, r2, r3, r4, r5, r6, r7, r8, -⟩ := hall
        obtain ⟨g7, cap7, rv7, row7⟩ := r7
        obtain ⟨rv8, row8⟩ := r8
        have hA := agree_done (agree_step (agree_step (agree_step (agree_step (agree_step (agree_step (agree_step (agree_step (agree_step (agree_initL [17, 18, 19, 20, 21, 22, 23, 24, 25] hsz hs (by kernel_rfl)) r0) r1) r2) r3) r4) r5) r6) rv7) rv8)
        have ha := act_of hA hdef
        rw [ha]
        clear ha hA hs hsz hdef r0 r1 r2 r3 r4 r5 r6 rv7 rv8
        (try simp only [List.setIfInBounds_toArray])
        (try dsimp only [List.set_cons_zero, List.set_cons_succ])
        (try simp only [Exit.then])
        refine op_run rfl (wanted_none rfl) (by go_simp; exact ⟨rfl, rfl⟩) ?_
        (try simp only [Exit.inBlock, Exit.then])
        go_wp2_with fail
        go_roundw
        case rel =>
          refine ⟨j + 1, by omega, ?_, by go_num, ?_, hp.row hrow (by omega), hbel.trans ?_⟩
          · rfl
          · exact row8
          · exact ⟨hp.os, hp.tape, hp.output, hp.size, fun k hk => hp.block k (by omega) (by omega)⟩
        case measure => simp [intOf]; omega
    · obtain rfl : j = l.length := by omega
      have hC := HC.out
      rw [List.take_length] at hown
      have hcv := own_conv (P := Try.prog) 27 9 hown Try.underlying27 Try.underlying5 Try.underlying9
      clear hC
      go_wp2_with fail
      go_ret
      exact ⟨rfl, hbel⟩
end Go.Proofs.Ytdjbhbefghihcaa
