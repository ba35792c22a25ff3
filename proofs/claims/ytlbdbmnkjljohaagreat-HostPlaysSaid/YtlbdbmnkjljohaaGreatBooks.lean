/- The document's book of users: a new one. -/
import Derived.Test.YtlbdbmnkjljohaaGreatBookF
import Derived.Test.YtlbdbmnkjljohaaGreatRegionP
import Derived.Test.YtlbdbmnkjljohaaGreatTidy
import Derived.Test.YtlbdbmnkjljohaaGreatLaw16g
set_option linter.unusedSimpArgs false
set_option linter.unusedVariables false
namespace Go.Proofs.YtlbdbmnkjljohaaGreat
open Go.RowKit Go.Esc
def IsPtrZ (base : Nat) (e : TypeId) (n : Nat) (xs : List Value) : Value → World → Prop := fun v w => ∃ g, v = .slice (some ⟨g, 0, none⟩) n n ∧ Row w g e xs ∧ base ≤ g
instance (base : Nat) (e : TypeId) (n : Nat) (xs : List Value) : Stable (IsPtrZ base e n xs) := ⟨fun _ _ _ h hp => by obtain ⟨g, hv, hr, hb⟩ := h; exact ⟨g, hv, hr.pu hp, hb⟩⟩
def bookV (x : BI) (n : Nat) : List Value := [.slice x.aL n x.cL, .slice (some ⟨x.gF, 0, none⟩) n n, .slice (some ⟨x.gU, 0, none⟩) n n, .slice (some ⟨x.gK, 0, none⟩) n n]
/-- What the blocks of a new book hold. -/
structure BkAt (base n : Nat) (ul zi zb : List Value) (w : World) (x : BI) : Prop where
  usr : 0 < n → x.aL = some ⟨x.gL, 0, none⟩ ∧ Row w x.gL 23 ul
  f : Row w x.gF 3 zi
  u : Row w x.gU 3 zi
  k : Row w x.gK 4 zb
  ne : x.gF ≠ x.gU
  bl : 0 < n → base ≤ x.gL
  bf : base ≤ x.gF
  bu : base ≤ x.gU
  bk : base ≤ x.gK
theorem BkAt.pu {base n : Nat} {ul zi zb : List Value} {w w' : World} {x : BI} (h : BkAt base n ul zi zb w x) (hp : Pu w w') : BkAt base n ul zi zb w' x := ⟨fun hn => ⟨(h.usr hn).1, (h.usr hn).2.pu hp⟩, h.f.pu hp, h.u.pu hp, h.k.pu hp, h.ne, h.bl, h.bf, h.bu, h.bk⟩
def IsPtrK (base n : Nat) (ul zi zb : List Value) : Value → World → Prop := fun v w => ∃ x : BI, v = .agg (bookV x n).toArray ∧ BkAt base n ul zi zb w x
instance (base n : Nat) (ul zi zb : List Value) : Stable (IsPtrK base n ul zi zb) := ⟨fun _ _ _ h hp => by obtain ⟨x, hv, hr⟩ := h; exact ⟨x, hv, hr.pu hp⟩⟩
def IsPtrX (base n : Nat) (ul zi zb : List Value) : Value → World → Prop := fun v w => ∃ g, v = .pointer (some ⟨g, 0, none⟩) ∧ base ≤ g ∧ ∃ x : BI, Row w g 80 (bookV x n) ∧ BkAt base n ul zi zb w x
instance (base n : Nat) (ul zi zb : List Value) : Stable (IsPtrX base n ul zi zb) := ⟨fun _ _ _ h hp => by obtain ⟨g, hv, hb, x, hr, hk⟩ := h; exact ⟨g, hv, hb, x, hr.pu hp, hk.pu hp⟩⟩
theorem infoZ : (Tryz.prog.info? 3).map (fun i => (i.zero, i.size, i.bytes)) = some (some (.int .i64 0), 1, 8) := by kernel_rfl
theorem infoO : (Tryz.prog.info? 4).map (fun i => (i.zero, i.size, i.bytes)) = some (some (.bool false), 1, 1) := by kernel_rfl
theorem own_gL {w : World} {B n cL : Nat} {aL : Option Addr} {xs : List Value} (h : w.ownsRow B 23 2 (.slice aL n cL) n xs) : ∃ gL, 0 < n → aL = some ⟨gL, 0, none⟩ ∧ Row w gL 23 xs ∧ B ≤ gL := by
  by_cases hn : 0 < n
  · obtain ⟨g, cap, hv, hr⟩ := ownN_form h hn
    cases hv
    obtain ⟨_, _, hv2, hb⟩ := ownN_slice h
    cases hv2
    exact ⟨g, fun _ => ⟨rfl, hr, (hb g rfl).1⟩⟩
  · exact ⟨0, fun h => absurd h hn⟩
/-- append to nothing, within a drawn region. -/
theorem op_appendN {P : Program} {ops : Array Oper} {Q : Exit → Act → World → Prop} {Φ : Value → World → Prop} {i : Nat} {o : Oper} {a' : Act} {w : World} (ho : ops[i]? = some o) (hg : o.guard = none) (s x : Operand) (t : TypeId)
    (hop : o.op = Op.call { callee := Callee.builtin Builtin.append, args := #[s, x], argTypes := #[t, t] })
    (base : Nat) (e : TypeId) (inf : TypeInfo) (z : Value) (size bytes : Nat) (h1 : P.underlying t = some (.slice e)) (h2 : P.info? e = some inf) (h3 : inf.zero = some z) (h4 : inf.size = size) (h5 : inf.bytes = bytes) (h6 : z.cells.size = size) (h0 : 0 < size)
    (hs : a'.eval s = .slice none 0 0)
    (ad : Addr) (m c : Nat) (news : List Value) (hx : a'.eval x = .slice (some ad) m c) (hn : news.length = m * size) (hc : ∀ j u, news[j]? = some u → w.cell? (ad.add j) = some u) (h1c : ∀ u ∈ news, u.oneCell' = true)
    (b1 : m ≤ maxLen) (b2 : m * bytes ≤ 140737488355328) (hbase : base ≤ w.heap.size) (hd : o.dst.isSome = true)
    (hK : ∀ v' w', w'.ownsRow base e size v' m news → Φ v' w') :
    wpOp P ops Q i (fun a'' w'' => ∃ v, a'' = a'.put o.dst v ∧ Φ (if o.dst.isSome then v else undef) w'' ∧ Pu w w'') a' w := by
  have hw : Region.wanted o (yielded ops a'.tmps) = true := wanted_none hg
  unfold wpOp
  simp only [ho, hw, if_true]
  refine .inl ?_
  obtain ⟨v', w', hr, hA, hB, _, hD⟩ := run_append_own_at (P := P) w base t o.type e inf z size bytes h1 h2 h3 h4 h5 h6 h0 (.slice none 0 0) 0 [] (World.ownsRow_nil _ _ _ _) ad m c news hn hc h1c (by rw [Nat.zero_add]; exact b1) (by rw [Nat.zero_add]; exact b2) hbase
  unfold Oper.wp execOp
  simp only [hop, resolve, invoke, builtin, Sem.run_bind, Sem.run_pure, Result.andThen_ok, List.map_toArray, List.map_cons, List.map_nil, hs, hx, hr]
  refine ⟨v', rfl, ?_, ?_⟩
  · rw [if_pos hd]; exact hK v' w' (by simpa using hA)
  · exact ⟨hB.os, hB.tape, hB.output, hB.size, fun k hk => hB.block k hk (by simp [Value.ownBlock])⟩
set_option maxRecDepth 100000 in
set_option maxHeartbeats 3200000 in
theorem booksW {w : World} {a : Option Addr} {n cap : Nat} (zs : List (Bs × Bs)) (hn : n = zs.length) (h9 : n ≤ 100) (ha : zs ≠ [] → ∃ g, a = some ⟨g, 0, none⟩ ∧ Row w g 23 (flatU zs)) :
    Calls Tryz.prog 37 #[.slice a n cap] w fun e w' => ∃ bb x, e = .returned (.pointer (some ⟨bb, 0, none⟩)) ∧ BookAt w' bb x (mkU zs) ∧ (∀ g, x.G g → w.heap.size ≤ g) ∧ w.heap.size ≤ bb ∧ (zs ≠ [] → w.heap.size ≤ x.gL) ∧ Pu w w' := by
  have hmk : ∀ w, (Instr.makeSlice 77 (.int .i64 (n : Int)) (.int .i64 (n : Int))).run Tryz.prog w = .ok (.slice (some ⟨w.heap.size, 0, none⟩) n n) (w.alloc (.cells (madeCells #[.int .i64 0] n) 3)) := run_make_row' (P := Tryz.prog) 77 3 (.int .i64 0) 8 Tryz.underlying77 infoZ rfl .i64 .i64 n (by omega) (by omega)
  have hmb : ∀ w, (Instr.makeSlice 78 (.int .i64 (n : Int)) (.int .i64 (n : Int))).run Tryz.prog w = .ok (.slice (some ⟨w.heap.size, 0, none⟩) n n) (w.alloc (.cells (madeCells #[.bool false] n) 4)) := run_make_row' (P := Tryz.prog) 78 4 (.bool false) 1 Tryz.underlying78 infoO rfl .i64 .i64 n (by omega) (by omega)
  have hzi : (madeCells #[Value.int .i64 0] n).toList = failC (mkU zs) := by
    rw [toList_madeCells_one]
    refine List.ext_getElem? fun j => ?_
    simp [failC, mkU, List.getElem?_replicate, hn]
    by_cases hj : j < zs.length
    · simp [hj]
    · simp [hj]
  have hzt : tilC (mkU zs) = failC (mkU zs) := by simp [tilC, failC, mkU]
  have hzb : (madeCells #[Value.bool false] n).toList = lockC (mkU zs) := by
    rw [toList_madeCells_one]
    refine List.ext_getElem? fun j => ?_
    simp [lockC, mkU, List.getElem?_replicate, hn]
    by_cases hj : j < zs.length
    · simp [hj]
    · simp [hj]
  obtain ⟨zi, hzie⟩ : ∃ z, z = failC (mkU zs) := ⟨_, rfl⟩
  obtain ⟨zb, hzbe⟩ : ∃ z, z = lockC (mkU zs) := ⟨_, rfl⟩
  rw [← hzie] at hzi hzt
  rw [← hzbe] at hzb
  obtain ⟨iu, hiu, hz0, hz1, hz2⟩ : ∃ inf, Tryz.prog.info? 23 = some inf ∧ inf.zero = some (.agg #[.string ⟨#[]⟩, .string ⟨#[]⟩]) ∧ inf.size = 2 ∧ inf.bytes = 32 := by
    have := infoU
    cases hq : Tryz.prog.info? 23 with
    | none => rw [hq] at this; cases this
    | some inf => rw [hq] at this; simp at this; exact ⟨inf, rfl, this.1, this.2.1, this.2.2⟩
  have hnone : a = none → n = 0 := by
    intro h
    cases zs with
    | nil => simpa using hn
    | cons z r =>
      obtain ⟨g, hg, -⟩ := ha (by simp)
      rw [h] at hg; cases hg
  have hcells : ∀ ad w', a = some ad → Pu w w' → ∀ j u, (flatU zs)[j]? = some u → w'.cell? (ad.add j) = some u := by
    intro ad w' had hp j u hju
    cases zs with
    | nil => simp [flatU] at hju
    | cons z r =>
      obtain ⟨g, hg, hr⟩ := ha (by simp)
      rw [had] at hg
      cases hg
      exact row_at (hr.pu hp) j u hju
  have hfu := flatU_length zs
  have hone : ∀ u ∈ flatU zs, u.oneCell' = true := by
    intro u hu
    unfold flatU at hu
    obtain ⟨y, -, hy⟩ := List.mem_flatMap.1 hu
    simp at hy
    rcases hy with rfl | rfl <;> rfl
  obtain ⟨ul, hul⟩ : ∃ z, z = flatU zs := ⟨_, rfl⟩
  rw [← hul] at hcells hfu hone
  have HCE := Lib.hid hcells
  have HONE := Lib.hid hone
  have HFU := Lib.hid hfu
  have HZI := Lib.hid hzi
  have HZB := Lib.hid hzb
  have HNO := Lib.hid hnone
  have HN := Lib.hid hn
  have HUL := Lib.hid hul
  have HZT := Lib.hid hzt
  have HZE := Lib.hid hzie
  have HZF := Lib.hid hzbe
  clear hcells hone hfu hzi hzb hnone hn ha hul hzt hzie hzbe
  go_enter Tryz.func37, Tryz.ntmps37
  go_wp2_with fail
  apply region_pair (p := 4) (q := 7) (sp := 7) (sq := 10) (hpq := by decide) (hsp := by kernel_rfl) (hsq := by kernel_rfl) (Φs := (Is _ :: IsRowU w.heap.size n ul :: Is _ :: Is _ :: IsPtrZ w.heap.size 3 n zi :: Is _ :: Is _ :: IsPtrZ w.heap.size 3 n zi :: Is _ :: Is _ :: IsPtrZ w.heap.size 4 n zb :: IsPtrK w.heap.size n ul zi zb :: IsPtrX w.heap.size n ul zi zb :: IsPtrX w.heap.size n ul zi zb :: [])) (hm := by kernel_rfl) (hE := by kernel_rfl) (hD := by kernel_rfl) (hsize := by kernel_rfl)
  case hop =>
    refine ⟨?_, ?_, ?_, ?_, ?_, ?_, ?_, ?_, ?_, ?_, ?_, ?_, ?_, ?_, trivial⟩
    · intro a' w' hs hp he hne
      have e0 := hs 0 (by kernel_rfl)
      try simp [Is, Region.binds] at he
      exact op_plain (by decide) <| op_val rfl (wanted_none rfl) (by first | (go_simp; done) | (go_simp; rfl) | (simp [execOp, Act.eval, go_sem, *]; done) | (simp [execOp, Act.eval, go_sem, *]; rfl)) rfl (Pu.refl _)
    · intro a' w' hs hp he hne
      try simp [Is, Region.binds] at he
      cases a with | none => (have hn0 := HNO.out rfl; subst hn0; have hu0 : ul = [] := List.eq_nil_of_length_eq_zero (by have := HFU.out; have := HN.out; omega); exact op_plain (by decide) (op_val rfl (wanted_none rfl) (by first | (go_simp; done) | (go_simp; rfl)) (IsRowU.of (by rw [hu0]; exact World.ownsRow_nil _ _ _ _)) (Pu.refl _))) | some ad => exact op_plain (by decide) (op_appendN rfl rfl (.const (.slice none 0 0)) (.tmp 3) 50 rfl w.heap.size 23 iu (.agg #[.string ⟨#[]⟩, .string ⟨#[]⟩]) 2 32 Tryz.underlying50 hiu hz0 hz1 hz2 rfl (by decide) rfl ad n cap ul (by simpa [Act.eval] using he) (by rw [HFU.out, ← HN.out]) (HCE.out ad _ rfl hp) HONE.out (by unfold maxLen; omega) (by omega) hp.size rfl (fun v' w'' hown => IsRowU.of hown))
    · intro a' w' hs hp he hne
      have e0 := hs 0 (by kernel_rfl)
      try simp [Is, Region.binds] at he
      exact op_plain (by decide) <| op_val rfl (wanted_none rfl) (by first | (go_simp; done) | (go_simp; rfl) | (simp [execOp, Act.eval, go_sem, *]; done) | (simp [execOp, Act.eval, go_sem, *]; rfl)) rfl (Pu.refl _)
    · intro a' w' hs hp he hne
      try simp [Is, Region.binds] at he
      exact op_plain (by decide) <| op_val rfl (wanted_none rfl) (by first | (go_simp; done) | (go_simp; rfl) | (simp [execOp, Act.eval, go_sem, *]; done) | (simp [execOp, Act.eval, go_sem, *]; rfl)) rfl (Pu.refl _)
    · intro a' w' hs hp he hne
      try simp [Is, Region.binds] at he
      exact op_made rfl (wanted_none rfl) (by first | (go_simp; done) | (go_simp; exact ⟨rfl, rfl⟩) | (go_simp; rfl)) ⟨_, rfl, Row.newAt _ _ _ _ rfl HZI.out, hp.size⟩ ((Pu.refl _).alloc _) ⟨Nat.le_refl _, by simp [blkV]⟩
    · intro a' w' hs hp he hne
      have e0 := hs 0 (by kernel_rfl)
      try simp [Is, Region.binds] at he
      exact op_plain (by decide) <| op_val rfl (wanted_none rfl) (by first | (go_simp; done) | (go_simp; rfl) | (simp [execOp, Act.eval, go_sem, *]; done) | (simp [execOp, Act.eval, go_sem, *]; rfl)) rfl (Pu.refl _)
    · intro a' w' hs hp he hne
      try simp [Is, Region.binds] at he
      exact op_plain (by decide) <| op_val rfl (wanted_none rfl) (by first | (go_simp; done) | (go_simp; rfl) | (simp [execOp, Act.eval, go_sem, *]; done) | (simp [execOp, Act.eval, go_sem, *]; rfl)) rfl (Pu.refl _)
    · intro a' w' hs hp he hne
      try simp [Is, Region.binds] at he
      exact op_made rfl (wanted_none rfl) (by first | (go_simp; done) | (go_simp; exact ⟨rfl, rfl⟩) | (go_simp; rfl)) ⟨_, rfl, Row.newAt _ _ _ _ rfl HZI.out, hp.size⟩ ((Pu.refl _).alloc _) ⟨Nat.le_refl _, by simp [blkV]⟩
    · intro a' w' hs hp he hne
      have e0 := hs 0 (by kernel_rfl)
      try simp [Is, Region.binds] at he
      exact op_plain (by decide) <| op_val rfl (wanted_none rfl) (by first | (go_simp; done) | (go_simp; rfl) | (simp [execOp, Act.eval, go_sem, *]; done) | (simp [execOp, Act.eval, go_sem, *]; rfl)) rfl (Pu.refl _)
    · intro a' w' hs hp he hne
      try simp [Is, Region.binds] at he
      exact op_plain (by decide) <| op_val rfl (wanted_none rfl) (by first | (go_simp; done) | (go_simp; rfl) | (simp [execOp, Act.eval, go_sem, *]; done) | (simp [execOp, Act.eval, go_sem, *]; rfl)) rfl (Pu.refl _)
    · intro a' w' hs hp he hne
      try simp [Is, Region.binds] at he
      exact op_plain (by decide) (op_val rfl (wanted_none rfl) (by first | (go_simp; done) | (go_simp; exact ⟨rfl, rfl⟩) | (go_simp; rfl)) ⟨_, rfl, Row.newAt _ _ _ _ rfl HZB.out, hp.size⟩ ((Pu.refl _).alloc _))
    · intro a' w' hs hp he hne
      try simp [Is, Region.binds] at he
      have hne := hne (by kernel_rfl) (by kernel_rfl); obtain ⟨⟨aL, cL, h4, ho⟩, ⟨gF, h7, r7, b7⟩, ⟨gU, h10, r10, b10⟩, ⟨gK, h13, r13, b13⟩⟩ := he; rw [h7, h10] at hne; obtain ⟨gL, hgL⟩ := own_gL ho; exact op_plain (by decide) (op_val rfl (wanted_none rfl) (by first | (go_simp; done) | (go_simp; rfl)) ⟨⟨aL, cL, gL, gF, gU, gK⟩, rfl, ⟨fun hn => ⟨(hgL hn).1, (hgL hn).2.1⟩, r7, r10, r13, hne, fun hn => (hgL hn).2.2, b7, b10, b13⟩⟩ (Pu.refl _))
    · intro a' w' hs hp he hne
      try simp [Is, Region.binds] at he
      obtain ⟨x, hv, hk⟩ := he; simp only [bookV] at hv; exact op_plain (by decide) (op_val rfl (wanted_none rfl) (by first | (go_simp; done) | (go_simp; exact ⟨rfl, rfl⟩) | (go_simp; rfl)) ⟨_, rfl, hp.size, x, Row.newAt _ _ _ _ rfl rfl, hk.pu ((Pu.refl _).alloc _)⟩ ((Pu.refl _).alloc _))
    · intro a' w' hs hp he hne
      try simp [Is, Region.binds] at he
      obtain ⟨g, hv, hrest⟩ := he.2.2.2.2.2.2.2.2.2.2.2.2.2.2; exact op_plain (by decide) (op_val rfl (wanted_none rfl) (by first | (go_simp; done) | (go_simp; rfl)) ⟨g, rfl, hrest⟩ (Pu.refl _))
  case hend =>
    intro a' w' hdef hsz hs hp hne hall
    obtain ⟨r0, r1, r2, r3, r4, r5, r6, r7, r8, r9, r10, r11, r12, r13, -⟩ := hall
    obtain ⟨g1, cap1, rv1, row1⟩ := r1
    obtain ⟨g4, rv4, row4⟩ := r4
    obtain ⟨g7, rv7, row7⟩ := r7
    obtain ⟨g10, rv10, row10⟩ := r10
    obtain ⟨g11, rv11, row11⟩ := r11
    obtain ⟨g12, rv12, row12⟩ := r12
    obtain ⟨g13, rv13, row13⟩ := r13
    have hA := agree_done (agree_step (agree_step (agree_step (agree_step (agree_step (agree_step (agree_step (agree_step (agree_step (agree_step (agree_step (agree_step (agree_step (agree_step (agree_init [3, 4, 5, 6, 7, 8, 9, 10, 11, 12, 13, 14, 15, 2] hsz hs (by kernel_rfl)) r0) rv1) r2) r3) rv4) r5) r6) rv7) r8) r9) rv10) rv11) rv12) rv13)
    have ha := act_of hA hdef
    rw [ha]
    clear ha hA hs hsz hdef r0 r2 r3 r5 r6 r8 r9 rv1 rv4 rv7 rv10 rv11 rv12 rv13
    (try simp only [List.setIfInBounds_toArray])
    (try dsimp only [List.set_cons_zero, List.set_cons_succ])
    (try simp only [Exit.then])
    obtain ⟨hbb, x, hrb, hbk⟩ := row13
    simp only [Option.isSome_some, if_true]
    go_wp2_with fail
    go_ret
    have hlen : (mkU zs).length = n := by have := HN.out; simp [mkU]; omega
    refine ⟨_, x, rfl, ⟨?_, fun hl => ?_, ?_, ?_, ?_, hbk.ne, by omega, fun u hu => ?_⟩, ?_, hbb, fun hz => hbk.bl (by have := HN.out; cases zs with | nil => exact absurd rfl hz | cons z r => simp at this; omega), hp⟩
    · rw [hlen]; exact hrb
    · have h0 : 0 < n := by
        rw [← hlen]
        cases hm : mkU zs with
        | nil => exact absurd hm hl
        | cons z r => simp
      rw [nsL_mk, ← HUL.out]
      exact hbk.usr h0
    · rw [← HZE.out]; exact hbk.f
    · rw [HZT.out]; exact hbk.u
    · rw [← HZF.out]; exact hbk.k
    · obtain ⟨y, -, rfl⟩ := List.mem_map.1 hu
      show 0 < 3
      omega
    · rintro g (rfl | rfl | rfl)
      · exact hbk.bf
      · exact hbk.bu
      · exact hbk.bk
end Go.Proofs.YtlbdbmnkjljohaaGreat
