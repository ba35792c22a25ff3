/- Package escutcheonlaw14: Tidy. -/
import Derived.Test.YtlbdbmnkjljohaaGreatRegionA
import Derived.Test.YtlbdbmnkjljohaaGreatPrs
import Derived.Test.YtlbdbmnkjljohaaGreatFill
import Derived.Test.YtlbdbmnkjljohaaGreatT17
set_option linter.unusedSimpArgs false
set_option linter.unusedVariables false
namespace Go.Proofs.YtlbdbmnkjljohaaGreat
open Go.RowKit Go.Esc
def tidyU (L : List (Bs × Bs)) : List (Bs × Bs) := L.map fun x => (x.1, fillL x.2 32)
theorem tidyU_length (L : List (Bs × Bs)) : (tidyU L).length = L.length := by simp [tidyU]
theorem tidyU_take {L : List (Bs × Bs)} {k : Nat} (h : k < L.length) : tidyU (L.take (k+1)) = tidyU (L.take k) ++ [((L[k]).1, fillL (L[k]).2 32)] := by
  unfold tidyU; rw [List.take_succ_eq_append_getElem h, List.map_append]; rfl
theorem flatU_push (zs : List (Bs × Bs)) (a b : Bs) : flatU (zs ++ [(a, b)]) = flatU zs ++ [S a, S b] := by simp [flatU]
theorem ownN_pu {w w' : World} {B e s n : Nat} {v : Value} {xs : List Value} (h : w.ownsRow B e s v n xs) (hp : Pu w w') : w'.ownsRow B e s v n xs := by
  refine ⟨h.1, ?_⟩
  rcases h.2 with h0 | ⟨g, cap, cur, hv, hg, hc, rest⟩
  · exact .inl h0
  · refine .inr ⟨g, cap, cur, hv, hg, ?_, rest⟩
    rw [hp.block g (Array.getElem?_eq_some_iff.1 hc).1]
    exact hc
theorem ownN_slice {w : World} {B e s n : Nat} {v : Value} {xs : List Value} (h : w.ownsRow B e s v n xs) : ∃ a cap, v = .slice a n cap ∧ ∀ g, v.ownBlock = some g → B ≤ g ∧ g < w.heap.size := by
  rcases h.2 with ⟨rfl, rfl⟩ | ⟨g, cap, cur, rfl, hg, hc, _⟩
  · exact ⟨none, 0, rfl, fun g hg => (by cases hg)⟩
  · exact ⟨_, _, rfl, fun k hk => (by cases hk; exact ⟨hg, (Array.getElem?_eq_some_iff.1 hc).1⟩)⟩
def IsRowU (B n : Nat) (xs : List Value) : Value → World → Prop := fun v w => ∃ a cap, v = .slice a n cap ∧ w.ownsRow B 23 2 (.slice a n cap) n xs
theorem IsRowU.of {B n : Nat} {xs : List Value} {v : Value} {w : World} (h : w.ownsRow B 23 2 v n xs) : IsRowU B n xs v w := by
  obtain ⟨a, cap, rfl, -⟩ := ownN_slice h
  exact ⟨a, cap, rfl, h⟩
instance (B n : Nat) (xs : List Value) : Stable (IsRowU B n xs) := ⟨fun v w w' h hp => by
  obtain ⟨a, cap0, hv, h⟩ := h
  exact ⟨a, cap0, hv, ownN_pu h hp⟩⟩
/-- An append within a drawn region, of elements of so many cells. -/
theorem op_appendS {P : Program} {ops : Array Oper} {Q : Exit → Act → World → Prop} {R : World → Prop} {Φ : Value → World → Prop} {i : Nat} {o : Oper} {a' : Act} {w : World} (ho : ops[i]? = some o) (hg : o.guard = none) (s x : Operand) (t : TypeId)
    (hop : o.op = Op.call { callee := Callee.builtin Builtin.append, args := #[s, x], argTypes := #[t, t] })
    (base : Nat) (e : TypeId) (inf : TypeInfo) (z : Value) (size bytes : Nat) (h1 : P.underlying t = some (.slice e)) (h2 : P.info? e = some inf) (h3 : inf.zero = some z) (h4 : inf.size = size) (h5 : inf.bytes = bytes) (h6 : z.cells.size = size) (h0 : 0 < size)
    (v : Value) (n : Nat) (xs : List Value) (hs : a'.eval s = v) (hown : w.ownsRow base e size v n xs)
    (ad : Addr) (m c : Nat) (news : List Value) (hx : a'.eval x = .slice (some ad) m c) (hn : news.length = m * size) (hc : ∀ j u, news[j]? = some u → w.cell? (ad.add j) = some u) (h1c : ∀ u ∈ news, u.oneCell' = true)
    (b1 : n + m ≤ maxLen) (b2 : (n + m) * bytes ≤ 140737488355328) (hbase : base ≤ w.heap.size) (hd : o.dst.isSome = true)
    (hK : ∀ v' w', w'.ownsRow base e size v' (n + m) (xs ++ news) → w.grownBy w' v.ownBlock → Φ v' w' ∧ R w') :
    wpOp P ops Q i (fun a'' w'' => ∃ v, a'' = a'.put o.dst v ∧ Φ (if o.dst.isSome then v else undef) w'' ∧ R w'') a' w := by
  have hw : Region.wanted o (yielded ops a'.tmps) = true := wanted_none hg
  unfold wpOp
  simp only [ho, hw, if_true]
  refine .inl ?_
  obtain ⟨v', w', hr, hA, hB, _, hD⟩ := run_append_own_at (P := P) w base t o.type e inf z size bytes h1 h2 h3 h4 h5 h6 h0 v n xs hown ad m c news hn hc h1c b1 b2 hbase
  unfold Oper.wp execOp
  simp only [hop, resolve, invoke, builtin, Sem.run_bind, Sem.run_pure, Result.andThen_ok, List.map_toArray, List.map_cons, List.map_nil, hs, hx, hr]
  obtain ⟨q1, q2⟩ := hK v' w' hA hB
  exact ⟨v', rfl, by rw [if_pos hd]; exact q1, q2⟩
theorem infoU : (Tryz.prog.info? 23).map (fun i => (i.zero, i.size, i.bytes)) = some (some (.agg #[.string ⟨#[]⟩, .string ⟨#[]⟩]), 2, 32) := by kernel_rfl
theorem row_at {w : World} {g : Nat} {e : TypeId} {xs : List Value} (h : Row w g e xs) : ∀ j u, xs[j]? = some u → w.cell? ((⟨g, 0, none⟩ : Addr).add j) = some u := by
  intro j u hu
  have hj := (List.getElem?_eq_some_iff.1 hu).1
  have h9 := h.cell' j hj
  rw [hu] at h9
  simp only [Addr.add]
  split
  · next h0 => subst h0; exact h9
  · simpa using h9
theorem addr_succ (x : Addr) (n : Nat) : x.add (n + 1) = ⟨(x.add n).block, (x.add n).off + 1, none⟩ := by
  unfold Addr.add
  by_cases h : n = 0
  · simp [h]
  · simp [h, Nat.add_assoc]
set_option maxRecDepth 100000 in
set_option maxHeartbeats 3200000 in
theorem tidy {w : World} {a : Option Addr} {len cap : Nat} {L : List (Bs × Bs)} (hL : Prs w a len L) (hlen : len ≤ 100000) :
    Calls Tryz.prog 26 #[.slice a len cap] w fun e w' => ∃ v, e = .returned v ∧ w'.ownsRow w.heap.size 23 2 v len (flatU (tidyU L)) ∧ Pu w w' := by
  have hln := hL.none
  have hll := hL.length
  have HL := Lib.hid hL
  clear hL
  go_enter Tryz.func26, Tryz.ntmps26
  go_wp2_with fail
  go_loopw [4, 3] (fun x v wr => ∃ k : Nat, k ≤ len ∧ x = .int .i64 (k : Int) ∧ wr.ownsRow w.heap.size 23 2 v k (flatU (tidyU (L.take k))) ∧ Pu w wr) (fun x _ _ => len - (intOf x).toNat)
  case atStart => exact ⟨0, by omega, rfl, World.ownsRow_nil _ _ _ _, Pu.refl _⟩
  case round =>
    obtain ⟨k, hk, rfl, ho, hp0⟩ := hrel
    by_cases hlt : k < len
    · rcases a with _ | x
      · have := hln rfl; omega
      have hkL : k < L.length := by omega
      have htk := tidyU_take hkL
      have hsm := HL.out.small _ (List.getElem_mem hkL)
      have hce := fun w' (hp : Pu wr w') => (HL.out.keep (hp0.trans hp)).cell x rfl k hkL
      obtain ⟨nm, hnm⟩ : ∃ z, z = (L[k]).1 := ⟨_, rfl⟩
      obtain ⟨sc, hsc⟩ : ∃ z, z = (L[k]).2 := ⟨_, rfl⟩
      rw [← hnm, ← hsc] at htk hsm
      simp only [← hnm, ← hsc] at hce
      unfold maxLen at hsm
      have hF := fun w => fillW sc 32 (by omega) (by decide) w
      obtain ⟨fs, hfs⟩ : ∃ z, z = fillL sc 32 := ⟨_, rfl⟩
      rw [← hfs] at hF htk
      have hfl : flatU (tidyU (L.take (k+1))) = flatU (tidyU (L.take k)) ++ [S nm, S fs] := by rw [htk, flatU_push]
      obtain ⟨xs, hxs⟩ : ∃ z, z = flatU (tidyU (L.take k)) := ⟨_, rfl⟩
      rw [← hxs] at ho hfl
      have HFL := Lib.hid hfl
      obtain ⟨iu, hiu, hz0, hz1, hz2⟩ : ∃ inf, Tryz.prog.info? 23 = some inf ∧ inf.zero = some (.agg #[.string ⟨#[]⟩, .string ⟨#[]⟩]) ∧ inf.size = 2 ∧ inf.bytes = 32 := by
        have := infoU
        cases hq : Tryz.prog.info? 23 with
        | none => rw [hq] at this; cases this
        | some inf => rw [hq] at this; simp at this; exact ⟨inf, rfl, this.1, this.2.1, this.2.2⟩
      obtain ⟨av, cv, rfl, hvb⟩ := ownN_slice ho
      obtain ⟨G, hG⟩ : ∃ G, G = ((Value.slice av k cv).ownBlock).getD wr.heap.size := ⟨_, rfl⟩
      have hGw : w.heap.size ≤ G := by
        rw [hG]
        cases hb : (Value.slice av k cv).ownBlock with
        | none => exact hp0.size
        | some g => exact (hvb g hb).1
      have hGb : ∀ g, (Value.slice av k cv).ownBlock = some g → g = G := fun g hg => by rw [hG, hg]; rfl
      have hce2 : ∀ w', But G wr w' → w'.cell? (x.add (k * 2)) = some (S nm) ∧ w'.cell? (x.add (k * 2 + 1)) = some (S sc) := fun w' hp => by
        have := (HL.out.keep (But.below hp0 hp hGw hp0.size)).cell x rfl k hkL
        rw [← hnm, ← hsc] at this
        exact ⟨this.1, this.2.1⟩
      have HCE := Lib.hid hce2
      have HF := Lib.hid hF
      have HGB := Lib.hid hGb
      have HO := Lib.hid ho
      have hk1 : (k : Int) < len := by omega
      have hk0 : (0 : Int) ≤ k := by omega
      clear hce hce2 hF htk hfl hxs hG hGb hvb ho hnm hsc hfs hsm
      go_wp2_with fail
      apply region_app (g := G) (b := 13) (m := 14) (n := 15) (hn := by kernel_rfl) (hlast := rfl) (hU := by kernel_rfl) (hbm := by decide) (hBr := by kernel_rfl) (Φs := (Is _ :: Is _ :: Is _ :: Is _ :: Is _ :: Is _ :: Is _ :: Is _ :: Is _ :: Is _ :: Is _ :: Is _ :: Is _ :: IsRow 23 1 [S nm, S fs] :: IsRowU w.heap.size (k + 1) (xs ++ [S nm, S fs]) :: [])) (hfree := ⟨fun _ => free_is _, fun _ => free_is _, fun _ => free_is _, fun _ => free_is _, fun _ => free_is _, fun _ => free_is _, fun _ => free_is _, fun _ => free_is _, fun _ => free_is _, fun _ => free_is _, fun _ => free_is _, fun _ => free_is _, fun _ => free_is _, (fun h => absurd h (by decide)), (fun h => absurd h (by decide)), trivial⟩) (hm := by kernel_rfl) (hE := by kernel_rfl) (hD := by kernel_rfl) (hsize := by kernel_rfl)
      case hop =>
        refine ⟨?_, ?_, ?_, ?_, ?_, ?_, ?_, ?_, ?_, ?_, ?_, ?_, ?_, ?_, ?_, trivial⟩
        · intro a' w' hs hp he
          have hp : But G _ w' := hp
          have e3 := hs 3 (by kernel_rfl)
          try simp [Is, Region.binds] at he
          exact op_val rfl (wanted_none rfl) (by first | (go_simp; done) | (go_simp; rfl) | (simp [execOp, Act.eval, go_sem, *]; done) | (simp [execOp, Act.eval, go_sem, *]; rfl)) rfl (Pu.refl _)
        · intro a' w' hs hp he
          have hp : But G _ w' := hp
          have e0 := hs 0 (by kernel_rfl)
          try simp [Is, Region.binds] at he
          exact op_val rfl (wanted_none rfl) (by first | (go_simp; done) | (go_simp; rfl) | (simp [execOp, Act.eval, go_sem, *]; done) | (simp [execOp, Act.eval, go_sem, *]; rfl)) rfl (Pu.refl _)
        · intro a' w' hs hp he
          have hp : But G _ w' := hp
          have e4 := hs 4 (by kernel_rfl)
          try simp [Is, Region.binds] at he
          exact op_val rfl (wanted_none rfl) (by first | (go_simp; done) | (go_simp; rfl) | (simp [execOp, Act.eval, go_sem, *]; done) | (simp [execOp, Act.eval, go_sem, *]; rfl)) rfl (Pu.refl _)
        · intro a' w' hs hp he
          have hp : But G _ w' := hp
          try simp [Is, Region.binds] at he
          exact op_val rfl (wanted_none rfl) (by first | (go_simp; done) | (go_simp; rfl) | (simp [execOp, Act.eval, go_sem, *]; done) | (simp [execOp, Act.eval, go_sem, *]; rfl)) rfl (Pu.refl _)
        · intro a' w' hs hp he
          have hp : But G _ w' := hp
          try simp [Is, Region.binds] at he
          exact op_val rfl (wanted_none rfl) (by first | (go_simp; done) | (go_simp; rfl) | (simp [execOp, Act.eval, go_sem, *]; done) | (simp [execOp, Act.eval, go_sem, *]; rfl)) rfl (Pu.refl _)
        · intro a' w' hs hp he
          have hp : But G _ w' := hp
          try simp [Is, Region.binds] at he
          obtain ⟨c0, c1⟩ := HCE.out _ hp; exact op_val rfl (wanted_none rfl) (by first | (go_simp; done) | (go_simp; rfl)) rfl (Pu.refl _)
        · intro a' w' hs hp he
          have hp : But G _ w' := hp
          have e0 := hs 0 (by kernel_rfl)
          try simp [Is, Region.binds] at he
          exact op_val rfl (wanted_none rfl) (by first | (go_simp; done) | (go_simp; rfl) | (simp [execOp, Act.eval, go_sem, *]; done) | (simp [execOp, Act.eval, go_sem, *]; rfl)) rfl (Pu.refl _)
        · intro a' w' hs hp he
          have hp : But G _ w' := hp
          have e4 := hs 4 (by kernel_rfl)
          try simp [Is, Region.binds] at he
          exact op_val rfl (wanted_none rfl) (by first | (go_simp; done) | (go_simp; rfl) | (simp [execOp, Act.eval, go_sem, *]; done) | (simp [execOp, Act.eval, go_sem, *]; rfl)) rfl (Pu.refl _)
        · intro a' w' hs hp he
          have hp : But G _ w' := hp
          try simp [Is, Region.binds] at he
          exact op_val rfl (wanted_none rfl) (by first | (go_simp; done) | (go_simp; rfl) | (simp [execOp, Act.eval, go_sem, *]; done) | (simp [execOp, Act.eval, go_sem, *]; rfl)) rfl (Pu.refl _)
        · intro a' w' hs hp he
          have hp : But G _ w' := hp
          try simp [Is, Region.binds] at he
          exact op_val rfl (wanted_none rfl) (by first | (go_simp; done) | (go_simp; rfl) | (simp [execOp, Act.eval, go_sem, *]; done) | (simp [execOp, Act.eval, go_sem, *]; rfl)) rfl (Pu.refl _)
        · intro a' w' hs hp he
          have hp : But G _ w' := hp
          try simp [Is, Region.binds] at he
          obtain ⟨c0, c1⟩ := HCE.out _ hp; rw [addr_succ] at c1; exact op_val rfl (wanted_none rfl) (by first | (go_simp; done) | (go_simp; rfl)) rfl (Pu.refl _)
        · intro a' w' hs hp he
          have hp : But G _ w' := hp
          try simp [Is, Region.binds] at he
          exact op_callP ((HF.out _).mono (by rintro e w' ⟨rfl, rfl⟩; exact ⟨rfl, Pu.refl _⟩)) rfl (wanted_none rfl) (by first | (go_simp; done) | (go_simp; rfl)) (fun _ => rfl)
        · intro a' w' hs hp he
          have hp : But G _ w' := hp
          try simp [Is, Region.binds] at he
          exact op_val rfl (wanted_none rfl) (by first | (go_simp; done) | (go_simp; rfl) | (simp [execOp, Act.eval, go_sem, *]; done) | (simp [execOp, Act.eval, go_sem, *]; rfl)) rfl (Pu.refl _)
        · intro a' w' hs hp he
          have hp : But G _ w' := hp
          try simp [Is, Region.binds] at he
          refine op_val rfl (wanted_none rfl) (by go_simp; exact ⟨rfl, rfl⟩) ?_ ((Pu.refl _).alloc _); exact ⟨_, _, rfl, Row.newAt _ _ _ _ rfl rfl⟩
        · intro a' w' hs hp he
          have hp : Pu _ w' := hp
          try simp [Is, Region.binds] at he
          obtain ⟨hv0, ⟨g13, cap13, hv13, hrow13⟩, -⟩ := he; refine op_appendS (R := fun w'' => But G w' w'') rfl rfl (.tmp 11) (.tmp 24) 50 rfl w.heap.size 23 iu (.agg #[.string ⟨#[]⟩, .string ⟨#[]⟩]) 2 32 Tryz.underlying50 hiu hz0 hz1 hz2 rfl (by decide) (.slice av k cv) k xs (by simpa [Act.eval] using hv0) (ownN_pu HO.out hp) ⟨g13, 0, none⟩ 1 cap13 [S nm, S fs] (by simpa [Act.eval] using hv13) rfl (row_at hrow13) (by simp [Value.oneCell']) (by unfold maxLen; omega) (by omega) (by have := hp0.size; have := hp.size; omega) rfl ?_; intro v' w'' h1 h2; exact ⟨IsRowU.of h1, ⟨h2.os, h2.tape, h2.output, h2.size, fun j hj hne => h2.block j hj (fun e => hne (HGB.out j e.symm))⟩⟩
      case hend =>
        intro a' w' hdef hsz hs hp hall
        obtain ⟨r0, r1, r2, r3, r4, r5, r6, r7, r8, r9, r10, r11, r12, r13, r14, -⟩ := hall
        obtain ⟨vB, rv13⟩ : ∃ v, a'.tmps[24]?.getD undef = v := ⟨_, rfl⟩
        obtain ⟨g14, cap14, rv14, row14⟩ := r14
        have hA := agree_done (agree_step (agree_step (agree_step (agree_step (agree_step (agree_step (agree_step (agree_step (agree_step (agree_step (agree_step (agree_step (agree_step (agree_step (agree_step (agree_initL [11, 12, 13, 14, 15, 16, 17, 18, 19, 20, 21, 22, 23, 24, 25] hsz hs (by kernel_rfl)) r0) r1) r2) r3) r4) r5) r6) r7) r8) r9) r10) r11) r12) rv13) rv14)
        have ha := act_of hA hdef
        rw [ha]
        clear ha hA hs hsz hdef r0 r1 r2 r3 r4 r5 r6 r7 r8 r9 r10 r11 r12 rv13 rv14
        (try simp only [List.setIfInBounds_toArray])
        (try dsimp only [List.set_cons_zero, List.set_cons_succ])
        (try simp only [Exit.then])
        refine op_run rfl (wanted_none rfl) (by first | (go_simp; done) | (go_simp; rfl) | (go_simp; exact ⟨rfl, rfl⟩)) ?_
        (try simp only [Exit.inBlock, Exit.then])
        (try simp only [Act.put, List.setIfInBounds_toArray])
        (try dsimp only [List.set_cons_zero, List.set_cons_succ])
        have hpf : Pu w w' := But.below hp0 hp hGw hp0.size
        have HR14 := Lib.hid row14
        clear hp row14
        simp only [Option.isSome_some, if_true]
        go_wp2_with fail
        go_roundw
        case rel => exact ⟨k + 1, by omega, by go_num, by rw [HFL.out]; exact HR14.out, hpf⟩
        case measure => simp [intOf]; omega
    · obtain rfl : k = len := by omega
      have hlt' : decide ((k : Int) < k) = false := by simp
      go_wp2_with fail
      go_ret
      rw [← hll, List.take_length] at ho
      exact ⟨_, rfl, by rw [← hll]; exact ho, hp0⟩
end Go.Proofs.YtlbdbmnkjljohaaGreat
