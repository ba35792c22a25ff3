/- Package shake: the guest's handshake. Package shake: the host's handshake. -/
import Derived.Test.YtlbdbmnkjljohaaGreatT12
set_option linter.unusedSimpArgs false
set_option linter.unusedVariables false
set_option linter.unusedSimpArgs false
set_option linter.unusedVariables false
namespace Go.Proofs.YtlbdbmnkjljohaaGreat
open Go.RowKit Go.Esc
theorem wpList_load_rowG {P : Program} {w : World} {ops : Array Oper} {rest : List Oper} {o : Oper} {a : Act} {Q : Exit → Act → World → Prop} (hw : Region.wanted o (yielded ops a.tmps) = true) (ty : TypeId) (x : Operand) (ho : o.op = .load ty x)
    (g : Nat) (xs : List Value) (hx : a.eval x = .pointer (some ⟨g, 0, none⟩)) {e : TypeId} (hr : Row w g e xs) {d : TypeDesc}
    (hu : P.underlying ty = some d) (hd : (match d with | .struct _ | .array _ _ => true | _ => false) = true) (hi : (P.info? ty).map (·.size) = some xs.length)
    (h : wpList P ops Q rest (a.put o.dst (.agg xs.toArray)) w) : wpList P ops Q (o :: rest) a w := by
  refine BigFrame.wpList_want hw fun K hK => ?_
  unfold Oper.wp execOp
  simp only [ho, hx, Instr.loadAt, Instr.sureAddr, Sem.run_bind, Sem.run_pure, Result.andThen_ok, hr.loadAll ty hu hd hi]
  exact hK _ _ h
theorem op_storeC {P : Program} {ops : Array Oper} {Q : Exit → Act → World → Prop} {g : Nat} {Φ : Value → World → Prop} {C : World → Prop} {i : Nat} {o : Oper} {a' : Act} {w' w'' : World} {v : Value} (ho : ops[i]? = some o) (hg : o.guard = none) (ty : TypeId) (x y : Operand) (hop : o.op = .store ty x y)
    (ad : Addr) (hx : a'.eval x = .pointer (some ad)) (hy : a'.eval y = v) (hl : (storeVar ty ad v).run P w' = .ok () w'') (hφ : Φ (if o.dst.isSome then undef else undef) w'') (hC : C w'') (hp : But g w' w'') :
    wpOp P ops Q i (fun a'' w'' => ∃ v, a'' = a'.put o.dst v ∧ (Φ (if o.dst.isSome then v else undef) w'' ∧ C w'') ∧ But g w' w'') a' w' :=
  op_doneC ho (wanted_none hg) (by unfold execOp; simp only [hop, hx, hy, Instr.storeAt, Instr.sureAddr, Sem.run_bind, Sem.run_pure, Result.andThen_ok, hl]) hφ hC hp
theorem _root_.Go.Esc.Chg.but {g : Nat} {w w' : World} (h : Chg g w w') : But g w w' := ⟨h.os, h.tape, h.output, Nat.le_of_eq h.size.symm, fun k _ hk => h.block k hk⟩
/-- A guest's handshake. -/
def guestC (name secret nonce papers : Bs) (step : Nat) : List Value := [S name, S secret, S (helloL name nonce), S papers, .int .i64 (step : Int)]
def GuestAt (w : World) (gb : Nat) (name secret nonce papers : Bs) (step : Nat) : Prop := Row w gb 90 (guestC name secret nonce papers step)
def guestOk (name secret nonce : Bs) : Prop := userB name secret = true ∧ nonce.length = 16
theorem guestOk.hello {name secret nonce : Bs} (h : guestOk name secret nonce) : helloOk name nonce := by
  have h1 := h.1
  unfold userB at h1
  simp at h1
  have := nameB_len h1.1
  exact ⟨h.2, this.1, this.2⟩
theorem helloL_short {name nonce : Bs} (h : helloOk name nonce) : (helloL name nonce).length ≤ 38 := by
  obtain ⟨h1, h2, h3⟩ := h
  rw [helloL_length]; omega
set_option maxRecDepth 100000 in
set_option maxHeartbeats 1600000 in
theorem newGuest (name secret nonce : Bs) (h : guestOk name secret nonce) (w : World) :
    Calls Tryz.prog 13 #[.agg #[S name, S secret], S nonce] w fun e w' => ∃ gb, e = .returned (.pointer (some ⟨gb, 0, none⟩)) ∧ GuestAt w' gb name secret nonce [] 0 ∧ w.heap.size ≤ gb ∧ Pu w w' := by
  have hi2 : (Tryz.prog.info? 23).map (·.size) = some 2 := by kernel_rfl
  have hh := h.hello
  have hr : helloR name nonce = some (helloL name nonce) := by unfold helloR; rw [if_pos hh]
  have hs : secret.length = 32 := by have := h.1; unfold userB at this; simp at this; exact this.2
  have hP := fun w => putHello name nonce (by have := hh.2.2; omega) (by have := hh.1; omega) w
  have hR := fun w => rightW name secret (by have := hh.2.2; omega) (by omega) w
  rw [hr] at hP
  rw [h.1] at hR
  unfold GuestAt guestC
  obtain ⟨o, ho⟩ : ∃ o, o = helloL name nonce := ⟨_, rfl⟩
  rw [← ho] at hP ⊢
  have hP' : ∀ w, Calls Tryz.prog 38 #[.agg #[S name, S nonce]] w fun e w' => e = .returned (.tuple #[S o, .bool true]) ∧ Pu w w' := hP
  have HP := Lib.hid hP'
  have HR := Lib.hid hR
  have hp0 := (Pu.refl w).alloc (.cells #[S name, S secret] 23)
  have hr0 : Row (w.alloc (.cells #[S name, S secret] 23)) w.heap.size 23 [S name, S secret] := Row.newAt _ _ _ _ rfl rfl
  clear hP hP' hR hh hr hs ho h
  go_enter Tryz.func13, Tryz.ntmps13
  go_wp2_with (first
    | (go_at_call 38; refine (HP.out _).mono ?_; rintro e w1 ⟨rfl, hp1⟩)
    | (refine wpList_load_rowG rfl 23 (.tmp 2) rfl w.heap.size [S name, S secret] (by rfl) (hr0.pu hp1) Tryz.underlying23 rfl hi2 ?_)
    | (go_at_call 43; refine (HR.out _).mono ?_; rintro e w2 ⟨rfl, hp2⟩)
    | (refine wpList_load_rowG rfl 23 (.tmp 2) rfl w.heap.size [S name, S secret] (by rfl) ((hr0.pu hp1).pu hp2) Tryz.underlying23 rfl hi2 ?_))
  go_ret
  exact ⟨_, rfl, Row.newAt _ _ _ _ rfl rfl, ((hp0.trans hp1).trans hp2).size, ((hp0.trans hp1).trans hp2).alloc _⟩
set_option maxRecDepth 100000 in
set_option maxHeartbeats 1600000 in
theorem newGuestNo (name secret nonce : Bs) (h : ¬ guestOk name secret nonce) (h1 : name.length ≤ 100000) (h2 : secret.length ≤ 100000) (h3 : nonce.length ≤ 100000) (w : World) :
    Calls Tryz.prog 13 #[.agg #[S name, S secret], S nonce] w fun e w' => e = .returned (.pointer none) ∧ Pu w w' := by
  have hi2 : (Tryz.prog.info? 23).map (·.size) = some 2 := by kernel_rfl
  have hP := fun w => putHello name nonce h1 h3 w
  have hR := fun w => rightW name secret (by omega) (by omega) w
  have hp0 := (Pu.refl w).alloc (.cells #[S name, S secret] 23)
  have hr0 : Row (w.alloc (.cells #[S name, S secret] 23)) w.heap.size 23 [S name, S secret] := Row.newAt _ _ _ _ rfl rfl
  have hu : (helloR name nonce).isSome = true → userB name secret = false := fun hs => by
    cases hu : userB name secret with
    | false => rfl
    | true =>
      exfalso
      apply h
      refine ⟨hu, ?_⟩
      unfold helloR at hs
      split at hs
      · next hh => exact hh.1
      · cases hs
  obtain ⟨o, ho⟩ : ∃ o, o = helloR name nonce := ⟨_, rfl⟩
  rw [← ho] at hP hu
  obtain ⟨u, hue⟩ : ∃ u, u = userB name secret := ⟨_, rfl⟩
  rw [← hue] at hR hu
  cases o with
  | none =>
    have hP' : ∀ w, Calls Tryz.prog 38 #[.agg #[S name, S nonce]] w fun e w' => e = .returned (.tuple #[S [], .bool false]) ∧ Pu w w' := hP
    have HP := Lib.hid hP'
    clear hP hP' hR hu ho hue h
    go_enter Tryz.func13, Tryz.ntmps13
    go_wp2_with (go_at_call 38; refine (HP.out _).mono ?_; rintro e w1 ⟨rfl, hp1⟩)
    go_ret
    exact ⟨rfl, hp0.trans hp1⟩
  | some x =>
    obtain rfl := hu rfl
    have hP' : ∀ w, Calls Tryz.prog 38 #[.agg #[S name, S nonce]] w fun e w' => e = .returned (.tuple #[S x, .bool true]) ∧ Pu w w' := hP
    have HP := Lib.hid hP'
    have HR := Lib.hid hR
    clear hP hP' hR hu ho hue h
    go_enter Tryz.func13, Tryz.ntmps13
    go_wp2_with (first
      | (go_at_call 38; refine (HP.out _).mono ?_; rintro e w1 ⟨rfl, hp1⟩)
      | (refine wpList_load_rowG rfl 23 (.tmp 2) rfl w.heap.size [S name, S secret] (by rfl) (hr0.pu hp1) Tryz.underlying23 rfl hi2 ?_)
      | (go_at_call 43; refine (HR.out _).mono ?_; rintro e w2 ⟨rfl, hp2⟩))
    go_ret
    exact ⟨rfl, (hp0.trans hp1).trans hp2⟩
section
variable {w : World} {gb : Nat} {name secret nonce papers : Bs} {step : Nat}
theorem GuestAt.pu (h : GuestAt w gb name secret nonce papers step) {w' : World} (hp : Pu w w') : GuestAt w' gb name secret nonce papers step := Row.pu h hp
theorem GuestAt.cells (h : GuestAt w gb name secret nonce papers step) : w.cell? ⟨gb, 1, none⟩ = some (S secret) ∧ w.cell? ⟨gb, 2, none⟩ = some (S (helloL name nonce)) ∧ w.cell? ⟨gb, 3, none⟩ = some (S papers) ∧ w.cell? ⟨gb, 4, none⟩ = some (.int .i64 (step : Int)) := by
  have h : Row w gb 90 (guestC name secret nonce papers step) := h
  refine ⟨?_, ?_, ?_, ?_⟩
  · have := h.cell 1 (by simp [guestC]); simpa [guestC] using this
  · have := h.cell 2 (by simp [guestC]); simpa [guestC] using this
  · have := h.cell 3 (by simp [guestC]); simpa [guestC] using this
  · have := h.cell 4 (by simp [guestC]); simpa [guestC] using this
theorem GuestAt.fr (h : GuestAt w gb name secret nonce papers step) (j : Nat) (hj : j < 5) : w.frozen? ⟨gb, j, none⟩ = false := Row.frozen (xs := guestC name secret nonce papers step) h j (by simpa [guestC] using hj)
set_option maxRecDepth 100000 in
theorem helloG (h : GuestAt w gb name secret nonce papers step) :
    Calls Tryz.prog 24 #[.pointer (some ⟨gb, 0, none⟩)] w fun e w' => e = .returned (S (helloL name nonce)) ∧ w' = w := by
  obtain ⟨c1, c2, c3, c4⟩ := h.cells
  obtain ⟨o, ho⟩ : ∃ o, o = helloL name nonce := ⟨_, rfl⟩
  rw [← ho] at c2 ⊢
  clear h ho
  go_enter Tryz.func24, Tryz.ntmps24
  go_wp2_with fail
  go_ret
  exact ⟨rfl, rfl⟩
set_option maxRecDepth 100000 in
theorem stepG (h : GuestAt w gb name secret nonce papers step) (hs : step ≤ 100) :
    Calls Tryz.prog 20 #[.pointer (some ⟨gb, 0, none⟩)] w fun e w' => e = .returned (.int .i64 (step : Int)) ∧ w' = w := by
  obtain ⟨c1, c2, c3, c4⟩ := h.cells
  clear h
  go_enter Tryz.func20, Tryz.ntmps20
  go_wp2_with (go_at_call 51; refine (load64 _ _ _ c4).mono ?_; rintro e w1 ⟨rfl, rfl⟩)
  go_ret
  exact ⟨rfl, rfl⟩
set_option maxRecDepth 100000 in
theorem atG (h : GuestAt w gb name secret nonce papers step) (hs : step ≤ 100) (k : Nat) :
    Calls Tryz.prog 45 #[.pointer (some ⟨gb, 0, none⟩), .int .i64 (k : Int)] w fun e w' => e = .returned (.bool (decide (step = k))) ∧ w' = w := by
  have hS := stepG h hs
  obtain ⟨c1, c2, c3, c4⟩ := h.cells
  obtain ⟨o, ho⟩ : ∃ o, helloL name nonce = 1 :: o := ⟨_, rfl⟩
  rw [ho] at c2
  have HS := Lib.hid hS
  clear h ho hS
  by_cases hk : step = k
  · subst hk
    rw [show decide (step = step) = true by simp]
    go_enter Tryz.func45, Tryz.ntmps45
    go_wp2_with (go_at_call 20; refine HS.out.mono ?_; rintro e w1 ⟨rfl, rfl⟩)
    go_ret
    exact ⟨rfl, rfl⟩
  · have k1 : ((step : Int) == (k : Int)) = false := by simp; omega
    rw [show decide (step = k) = false by simp [hk]]
    clear hk
    go_enter Tryz.func45, Tryz.ntmps45
    go_wp2_with (go_at_call 20; refine HS.out.mono ?_; rintro e w1 ⟨rfl, rfl⟩)
    go_ret
    exact ⟨rfl, rfl⟩
end
set_option maxRecDepth 100000 in
theorem papersW (a b : Bs) (ha : a.length ≤ 100000) (hb : b.length ≤ 100000) (w : World) :
    Calls Tryz.prog 25 #[S a, S b] w fun e w' => e = .returned (S (a ++ b)) ∧ w' = w := by
  have z1 : ¬ (9223372036854775807 < a.length + b.length) := by omega
  go_enter Tryz.func25, Tryz.ntmps25
  go_wp2_with fail
  go_ret
  exact ⟨rfl, rfl⟩
/-- What a challenge does. -/
def chalS (secret hello papers : Bs) (step : Nat) (b : Bs) : Bs × Nat × Bs × Nat :=
  if step ≠ 0 then ([], 7, papers, step) else match fixR 2 16 b with
    | none => ([], 2, papers, step)
    | some _ => (3 :: proofL secret (hello ++ b), 0, hello ++ b, 1)
/-- What a finish does. -/
def finS (secret papers : Bs) (step : Nat) (b : Bs) : Bool × Nat × Nat :=
  if step ≠ 1 then (false, 7, step) else match fixR 4 32 b with
    | none => (false, 2, step)
    | some m => if m = finishL secret papers then (true, 0, 2) else (false, 3, step)
def keysO (secret papers : Bs) (o : Bool) : List Value := if o then sesV secret papers else [S [], S []]
set_option maxRecDepth 100000 in
set_option maxHeartbeats 1600000 in
theorem challengeW {w : World} {gb : Nat} {name secret nonce papers : Bs} {step : Nat} (h : GuestAt w gb name secret nonce papers step) (hs : step ≤ 100) (hok : guestOk name secret nonce) (b : Bs) (hb : b.length ≤ 10000) :
    Calls Tryz.prog 18 #[.pointer (some ⟨gb, 0, none⟩), S b] w fun e w' => e = .returned (.tuple #[S (chalS secret (helloL name nonce) papers step b).1, .int .i64 ((chalS secret (helloL name nonce) papers step b).2.1 : Int)]) ∧
      GuestAt w' gb name secret nonce (chalS secret (helloL name nonce) papers step b).2.2.1 (chalS secret (helloL name nonce) papers step b).2.2.2 ∧ But gb w w' := by
  have hA := atG h hs 0
  by_cases h0 : step = 0
  rotate_left
  · have e9 : chalS secret (helloL name nonce) papers step b = ([], 7, papers, step) := by unfold chalS; rw [if_pos h0]
    rw [e9]
    rw [show decide (step = 0) = false by simp [h0]] at hA
    have HA := Lib.hid hA
    have H := Lib.hid h
    clear e9 h0 hA h
    go_enter Tryz.func18, Tryz.ntmps18
    go_wp2_with (go_at_call 45; refine HA.out.mono ?_; rintro e w1 ⟨rfl, rfl⟩)
    go_ret2
    exact ⟨rfl, H.out, But.refl _ _⟩
  subst h0
  rw [show decide (0 = 0) = true by simp] at hA
  have HA := Lib.hid hA
  have hi1 : (Tryz.prog.info? 94).map (·.size) = some 1 := by kernel_rfl
  have hG := fun w => getChallenge b (by omega) w
  cases hf : fixR 2 16 b with
  | none =>
    have e9 : chalS secret (helloL name nonce) papers 0 b = ([], 2, papers, 0) := by unfold chalS; rw [if_neg (by simp), hf]
    rw [e9]
    rw [hf] at hG
    have HG := Lib.hid hG
    have H := Lib.hid h
    clear e9 hA hG hf h
    go_enter Tryz.func18, Tryz.ntmps18
    go_wp2_with (first
      | (go_at_call 45; refine HA.out.mono ?_; rintro e w1 ⟨rfl, rfl⟩)
      | (go_at_call 46; refine (HG.out _).mono ?_; rintro e w2 ⟨rfl, hp2⟩)
      | (refine wpList_store_part rfl 94 (.tmp 6) (.tmp 16) rfl w2.heap.size 0 [S []] (by rfl) (by rfl) (Row.newAt w2 w2.heap.size _ _ rfl rfl) hi1 (by simp) (by simp [Value.oneCell']) ?_; intro w4 hr4 hch4))
    have hp4 := hch4.below (hp2.alloc (.cells #[.string ⟨#[]⟩] 94)) hp2.size
    go_ret2
    exact ⟨rfl, H.out.pu hp4, But.pu hp4⟩
  | some x =>
    obtain ⟨hbl, -, -⟩ := fixR_some hf
    have hhs := helloL_short hok.hello
    have hsl : secret.length = 32 := by have := hok.1; unfold userB at this; simp at this; exact this.2
    have e9 : chalS secret (helloL name nonce) papers 0 b = (3 :: proofL secret (helloL name nonce ++ b), 0, helloL name nonce ++ b, 1) := by unfold chalS; rw [if_neg (by simp), hf]
    rw [e9]
    rw [hf] at hG
    have hG' : ∀ w, Calls Tryz.prog 46 #[S b] w fun e w' => e = .returned (.tuple #[.agg #[S x], .bool true]) ∧ Pu w w' := hG
    have hPa := fun w => papersW (helloL name nonce) b (by omega) (by omega) w
    have hPr := fun w => proofW1 secret (helloL name nonce ++ b) (by omega) (by rw [List.length_append]; omega) w
    have hPu := fun w => putProof (proofL secret (helloL name nonce ++ b)) (by exact macL_length _ _) w
    have hset : ∀ (w1 : World) (p : Bs), GuestAt w1 gb name secret nonce papers 0 → GuestAt ((w1.setCell ⟨gb, 3, none⟩ (S p)).setCell ⟨gb, 4, none⟩ (.int .i64 1)) gb name secret nonce p 1 := fun w1 p h => by
      have := (Row.set (xs := guestC name secret nonce papers 0) h 3 (S p)).set 4 (.int .i64 1)
      exact this
    obtain ⟨pp, hpp⟩ : ∃ p, p = helloL name nonce ++ b := ⟨_, rfl⟩
    rw [← hpp] at hPa hPr hPu ⊢
    obtain ⟨pr, hpr⟩ : ∃ p, p = proofL secret pp := ⟨_, rfl⟩
    rw [← hpr] at hPr hPu ⊢
    have HG := Lib.hid hG'
    have HPA := Lib.hid hPa
    have HPR := Lib.hid hPr
    have HPU := Lib.hid hPu
    have HSET := Lib.hid hset
    have H := Lib.hid h
    clear e9 hA hG hG' hf h hPa hPr hPu hset hpp hpr
    go_enter Tryz.func18, Tryz.ntmps18
    go_wp2_with (first
      | (go_at_call 45; refine HA.out.mono ?_; rintro e w1 ⟨rfl, rfl⟩)
      | (go_at_call 46; refine (HG.out _).mono ?_; rintro e w2 ⟨rfl, hp2⟩)
      | (refine wpList_store_part rfl 94 (.tmp 6) (.tmp 16) rfl w2.heap.size 0 [S x] (by rfl) (by rfl) (Row.newAt w2 w2.heap.size _ _ rfl rfl) hi1 (by simp) (by simp [Value.oneCell']) ?_; intro w4 hr4 hch4
         have hp4 := hch4.below (hp2.alloc (.cells #[.string ⟨#[]⟩] 94)) hp2.size
         have h4 := H.out.pu hp4
         obtain ⟨c1, c2, c3, c4⟩ := h4.cells
         have y3 := h4.fr 3 (by decide)
         have y4 := h4.fr 4 (by decide)
         have H5 := Lib.hid (HSET.out _ pp h4)
         clear hch4 hr4 h4)
      | (go_at_call 25; refine (HPA.out _).mono ?_; rintro e w5 ⟨rfl, rfl⟩)
      | (go_at_call 47; refine (store64 ⟨gb, 4, none⟩ (.int .i64 0) 1 _ (by go_simp) (by go_simp)).mono ?_; rintro e w6 ⟨rfl, rfl⟩))
    have h5 := H5.out
    obtain ⟨w7, hw7⟩ : ∃ w7, w7 = (w5.setCell ⟨gb, 3, none⟩ (S pp)).setCell ⟨gb, 4, none⟩ (.int .i64 1) := ⟨_, rfl⟩
    rw [← hw7] at h5 ⊢
    have hb5 : But gb w1 w7 := by rw [hw7]; exact ((But.pu hp4).trans (But.set _ _ _)).trans (But.set _ _ _)
    have HC5 := Lib.hid (fun w' (hp : Pu w7 w') => (h5.pu hp).cells)
    clear hw7 H5 c1 c2 c3 c4 y3 y4
    apply region_pu (Φs := (Is _ :: Is _ :: Is _ :: Is _ :: Is _ :: Is _ :: Is _ :: Is _ :: Is _ :: Is _ :: Is _ :: Is _ :: Is _ :: Is _ :: Is _ :: Is _ :: Is _ :: [])) (hm := by kernel_rfl) (hE := by kernel_rfl) (hD := by kernel_rfl) (hsize := by kernel_rfl)
    case hop =>
      refine ⟨?_, ?_, ?_, ?_, ?_, ?_, ?_, ?_, ?_, ?_, ?_, ?_, ?_, ?_, ?_, ?_, ?_, trivial⟩
      · intro a' w' hs hp he
        have e0 := hs 0 (by kernel_rfl)
        try simp [Is, Region.binds] at he
        exact op_val rfl (wanted_none rfl) (by first | (go_simp; done) | (go_simp; rfl) | (simp [execOp, Act.eval, go_sem, *]; done) | (simp [execOp, Act.eval, go_sem, *]; rfl)) rfl (Pu.refl _)
      · intro a' w' hs hp he
        try simp [Is, Region.binds] at he
        exact op_val rfl (wanted_none rfl) (by first | (go_simp; done) | (go_simp; rfl) | (simp [execOp, Act.eval, go_sem, *]; done) | (simp [execOp, Act.eval, go_sem, *]; rfl)) rfl (Pu.refl _)
      · intro a' w' hs hp he
        try simp [Is, Region.binds] at he
        exact op_val rfl (wanted_none rfl) (by first | (go_simp; done) | (go_simp; rfl) | (simp [execOp, Act.eval, go_sem, *]; done) | (simp [execOp, Act.eval, go_sem, *]; rfl)) rfl (Pu.refl _)
      · intro a' w' hs hp he
        try simp [Is, Region.binds] at he
        exact op_val rfl (wanted_none rfl) (by first | (go_simp; done) | (go_simp; rfl) | (simp [execOp, Act.eval, go_sem, *]; done) | (simp [execOp, Act.eval, go_sem, *]; rfl)) rfl (Pu.refl _)
      · intro a' w' hs hp he
        try simp [Is, Region.binds] at he
        obtain ⟨c1, c2, c3, c4⟩ := HC5.out _ hp; exact op_val rfl (wanted_none rfl) (by first | (go_simp; done) | (go_simp; rfl)) rfl (Pu.refl _)
      · intro a' w' hs hp he
        have e0 := hs 0 (by kernel_rfl)
        try simp [Is, Region.binds] at he
        exact op_val rfl (wanted_none rfl) (by first | (go_simp; done) | (go_simp; rfl) | (simp [execOp, Act.eval, go_sem, *]; done) | (simp [execOp, Act.eval, go_sem, *]; rfl)) rfl (Pu.refl _)
      · intro a' w' hs hp he
        try simp [Is, Region.binds] at he
        exact op_val rfl (wanted_none rfl) (by first | (go_simp; done) | (go_simp; rfl) | (simp [execOp, Act.eval, go_sem, *]; done) | (simp [execOp, Act.eval, go_sem, *]; rfl)) rfl (Pu.refl _)
      · intro a' w' hs hp he
        try simp [Is, Region.binds] at he
        exact op_val rfl (wanted_none rfl) (by first | (go_simp; done) | (go_simp; rfl) | (simp [execOp, Act.eval, go_sem, *]; done) | (simp [execOp, Act.eval, go_sem, *]; rfl)) rfl (Pu.refl _)
      · intro a' w' hs hp he
        try simp [Is, Region.binds] at he
        obtain ⟨c1, c2, c3, c4⟩ := HC5.out _ hp; exact op_val rfl (wanted_none rfl) (by first | (go_simp; done) | (go_simp; rfl)) rfl (Pu.refl _)
      · intro a' w' hs hp he
        try simp [Is, Region.binds] at he
        exact op_callP (HPR.out _) rfl (wanted_none rfl) (by first | (go_simp; done) | (go_simp; rfl)) (fun _ => rfl)
      · intro a' w' hs hp he
        try simp [Is, Region.binds] at he
        exact op_val rfl (wanted_none rfl) (by first | (go_simp; done) | (go_simp; rfl) | (simp [execOp, Act.eval, go_sem, *]; done) | (simp [execOp, Act.eval, go_sem, *]; rfl)) rfl (Pu.refl _)
      · intro a' w' hs hp he
        try simp [Is, Region.binds] at he
        exact op_callP (HPU.out _) rfl (wanted_none rfl) (by first | (go_simp; done) | (go_simp; rfl)) (fun _ => rfl)
      · intro a' w' hs hp he
        try simp [Is, Region.binds] at he
        exact op_val rfl (wanted_none rfl) (by first | (go_simp; done) | (go_simp; rfl) | (simp [execOp, Act.eval, go_sem, *]; done) | (simp [execOp, Act.eval, go_sem, *]; rfl)) rfl (Pu.refl _)
      · intro a' w' hs hp he
        try simp [Is, Region.binds] at he
        exact op_val rfl (wanted_none rfl) (by first | (go_simp; done) | (go_simp; rfl) | (simp [execOp, Act.eval, go_sem, *]; done) | (simp [execOp, Act.eval, go_sem, *]; rfl)) rfl (Pu.refl _)
      · intro a' w' hs hp he
        try simp [Is, Region.binds] at he
        exact op_val rfl (wanted_none rfl) (by first | (go_simp; done) | (go_simp; rfl) | (simp [execOp, Act.eval, go_sem, *]; done) | (simp [execOp, Act.eval, go_sem, *]; rfl)) rfl (Pu.refl _)
      · intro a' w' hs hp he
        try simp [Is, Region.binds] at he
        exact op_val rfl (wanted_none rfl) (by first | (go_simp; done) | (go_simp; rfl) | (simp [execOp, Act.eval, go_sem, *]; done) | (simp [execOp, Act.eval, go_sem, *]; rfl)) rfl (Pu.refl _)
      · intro a' w' hs hp he
        try simp [Is, Region.binds] at he
        exact op_val rfl (wanted_none rfl) (by first | (go_simp; done) | (go_simp; rfl) | (simp [execOp, Act.eval, go_sem, *]; done) | (simp [execOp, Act.eval, go_sem, *]; rfl)) rfl (Pu.refl _)
    case hend =>
      intro a' w' hdef hsz hs hp hall
      obtain ⟨r0, r1, r2, r3, r4, r5, r6, r7, r8, r9, r10, r11, r12, r13, r14, r15, r16, -⟩ := hall
      have hA := agree_done (agree_step (agree_step (agree_step (agree_step (agree_step (agree_step (agree_step (agree_step (agree_step (agree_step (agree_step (agree_step (agree_step (agree_step (agree_step (agree_step (agree_step (agree_init [34, 35, 36, 37, 38, 39, 40, 41, 42, 43, 44, 45, 33, 46, 47, 8, 9] hsz hs (by kernel_rfl)) r0) r1) r2) r3) r4) r5) r6) r7) r8) r9) r10) r11) r12) r13) r14) r15) r16)
      have ha := act_of hA hdef
      rw [ha]
      clear ha hA hs hsz hdef r0 r1 r2 r3 r4 r5 r6 r7 r8 r9 r10 r11 r12 r13 r14 r15 r16 
      (try simp only [List.setIfInBounds_toArray])
      (try dsimp only [List.set_cons_zero, List.set_cons_succ])
      (try simp only [Exit.then])
      go_wp2_with fail
      go_ret2
      exact ⟨rfl, h5.pu hp, hb5.trans (But.pu hp)⟩
set_option maxRecDepth 100000 in
set_option maxHeartbeats 1600000 in
theorem finishG {w : World} {gb : Nat} {name secret nonce papers : Bs} {step : Nat} (h : GuestAt w gb name secret nonce papers step) (hs : step ≤ 100) (hok : guestOk name secret nonce) (hpl : papers.length ≤ 10000) (b : Bs) (hb : b.length ≤ 10000) :
    Calls Tryz.prog 22 #[.pointer (some ⟨gb, 0, none⟩), S b] w fun e w' => e = .returned (.tuple #[.agg (keysO secret papers (finS secret papers step b).1).toArray, .int .i64 ((finS secret papers step b).2.1 : Int)]) ∧
      GuestAt w' gb name secret nonce papers (finS secret papers step b).2.2 ∧ But gb w w' := by
  have hi2 : (Tryz.prog.info? 44).map (·.size) = some 2 := by kernel_rfl
  have hi1 : (Tryz.prog.info? 102).map (·.size) = some 1 := by kernel_rfl
  have hp0 := (Pu.refl w).alloc (.cells #[.string ⟨#[]⟩, .string ⟨#[]⟩] 44)
  have hr0 : Row (w.alloc (.cells #[.string ⟨#[]⟩, .string ⟨#[]⟩] 44)) w.heap.size 44 [S [], S []] := Row.newAt _ _ _ _ rfl rfl
  have hglt : gb < w.heap.size := Row.lt (xs := guestC name secret nonce papers step) h
  have hA := atG (h.pu hp0) hs 1
  by_cases h0 : step = 1
  rotate_left
  · have e9 : finS secret papers step b = (false, 7, step) := by unfold finS; rw [if_pos h0]
    rw [e9]
    rw [show decide (step = 1) = false by simp [h0]] at hA
    have HA := Lib.hid hA
    have H := Lib.hid h
    clear e9 h0 hA h
    go_enter Tryz.func22, Tryz.ntmps22
    go_wp2_with (first
      | (go_at_call 45; refine HA.out.mono ?_; rintro e w1 ⟨rfl, rfl⟩)
      | (refine wpList_store_part rfl 44 (.tmp 4) (.tmp 11) rfl w.heap.size 0 [S [], S []] (by rfl) (by rfl) hr0 hi2 (by simp) (by simp [Value.oneCell']) ?_; intro w9 hr9 hch9))
    rw [splice_all (by rfl)] at hr9
    have hrl := hr9.load (P := Tryz.prog) 44 0 2 Tryz.underlying44 rfl hi2 (by simp)
    (try simp only [Exit.inBlock, Exit.then])
    refine bodyPost_ret (results_cell_slot rfl _ _ rfl rfl hrl) rfl ?_
    have hp9 := hch9.below hp0 (Nat.le_refl _)
    exact ⟨rfl, H.out.pu hp9, But.pu hp9⟩
  subst h0
  rw [show decide (1 = 1) = true by simp] at hA
  have HA := Lib.hid hA
  have hG := fun w => getFinish b (by omega) w
  cases hf : fixR 4 32 b with
  | none =>
    have e9 : finS secret papers 1 b = (false, 2, 1) := by unfold finS; rw [if_neg (by simp), hf]
    rw [e9]
    rw [hf] at hG
    have hG' : ∀ w, Calls Tryz.prog 52 #[S b] w fun e w' => e = .returned (.tuple #[.agg #[S []], .bool false]) ∧ Pu w w' := hG
    have HG := Lib.hid hG'
    have H := Lib.hid h
    clear e9 hA hG hG' hf h
    go_enter Tryz.func22, Tryz.ntmps22
    go_wp2_with (first
      | (go_at_call 45; refine HA.out.mono ?_; rintro e w1 ⟨rfl, rfl⟩)
      | (go_at_call 52; refine (HG.out _).mono ?_; rintro e w2 ⟨rfl, hp2⟩)
      | (refine wpList_store_part rfl 102 (.tmp 6) (.tmp 15) rfl w2.heap.size 0 [S []] (by rfl) (by rfl) (Row.newAt w2 w2.heap.size _ _ rfl rfl) hi1 (by simp) (by simp [Value.oneCell']) ?_; intro w4 hr4 hch4
         have hp4 := hch4.below (hp2.alloc (.cells #[.string ⟨#[]⟩] 102)) hp2.size)
      | (refine wpList_store_part rfl 44 (.tmp 4) (.tmp 20) rfl w.heap.size 0 [S [], S []] (by rfl) (by rfl) (hr0.pu hp4) hi2 (by simp) (by simp [Value.oneCell']) ?_; intro w9 hr9 hch9))
    rw [splice_all (by rfl)] at hr9
    have hrl := hr9.load (P := Tryz.prog) 44 0 2 Tryz.underlying44 rfl hi2 (by simp)
    (try simp only [Exit.inBlock, Exit.then])
    refine bodyPost_ret (results_cell_slot rfl _ _ rfl rfl hrl) rfl ?_
    have hp9 := hch9.below (hp0.trans hp4) (Nat.le_refl _)
    exact ⟨rfl, H.out.pu hp9, But.pu hp9⟩
  | some x =>
    obtain ⟨hbl, hxl, -⟩ := fixR_some hf
    have hsl : secret.length = 32 := by have := hok.1; unfold userB at this; simp at this; exact this.2
    have hG' : ∀ w, Calls Tryz.prog 52 #[S b] w fun e w' => e = .returned (.tuple #[.agg #[S x], .bool true]) ∧ Pu w w' := by rw [hf] at hG; exact hG
    have hFi := fun w => finishW1 secret papers (by omega) (by omega) w
    have hSa := fun w => same x (finishL secret papers) (by omega) (by rw [show (finishL secret papers).length = 32 from macL_length _ _]; omega) w
    have hKe := fun w => keysW secret papers (by omega) (by omega) w
    obtain ⟨f, hfe⟩ : ∃ f, f = finishL secret papers := ⟨_, rfl⟩
    have e9 : finS secret papers 1 b = if x = f then (true, 0, 2) else (false, 3, 1) := by unfold finS; rw [if_neg (by simp), hf, hfe]
    rw [e9]
    rw [← hfe] at hFi hSa
    have hset : ∀ (w1 : World), GuestAt w1 gb name secret nonce papers 1 → GuestAt (w1.setCell ⟨gb, 4, none⟩ (.int .i64 2)) gb name secret nonce papers 2 := fun w1 h => by
      have := Row.set (xs := guestC name secret nonce papers 1) h 4 (.int .i64 2)
      exact this
    have HG := Lib.hid hG'
    have HFI := Lib.hid hFi
    have HSET := Lib.hid hset
    have H := Lib.hid h
    by_cases hx : x = f
    · rw [if_pos hx]
      rw [show decide (x = f) = true by simp [hx]] at hSa
      have HSA := Lib.hid hSa
      rw [show sesV secret papers = [S (deriveL secret (sha papers) upW), S (deriveL secret (sha papers) downW)] from rfl] at hKe
      have hko : keysO secret papers true = [S (deriveL secret (sha papers) upW), S (deriveL secret (sha papers) downW)] := rfl
      obtain ⟨ka, hka⟩ : ∃ k, k = deriveL secret (sha papers) upW := ⟨_, rfl⟩
      obtain ⟨kb, hkb⟩ : ∃ k, k = deriveL secret (sha papers) downW := ⟨_, rfl⟩
      rw [← hka, ← hkb] at hKe hko
      rw [hko]
      have HKE := Lib.hid hKe
      clear e9 hA hG hG' hf h hFi hSa hKe hset hfe hx hko hka hkb
      go_enter Tryz.func22, Tryz.ntmps22
      go_wp2_with (first
        | (go_at_call 45; refine HA.out.mono ?_; rintro e w1 ⟨rfl, rfl⟩)
        | (go_at_call 52; refine (HG.out _).mono ?_; rintro e w2 ⟨rfl, hp2⟩)
        | (refine wpList_store_part rfl 102 (.tmp 6) (.tmp 15) rfl w2.heap.size 0 [S x] (by rfl) (by rfl) (Row.newAt w2 w2.heap.size _ _ rfl rfl) hi1 (by simp) (by simp [Value.oneCell']) ?_; intro w4 hr4 hch4
           have hp4 := hch4.below (hp2.alloc (.cells #[.string ⟨#[]⟩] 102)) hp2.size))
      rw [splice_all (by rfl)] at hr4
      have hp04 : Pu w w4 := hp0.trans hp4
      have hr04 := hr0.pu hp4
      have h4 := H.out.pu hp04
      have HC4 := Lib.hid (fun w' (hp : Pu w4 w') => (h4.pu hp).cells)
      have hx4 := fun w' (hp : Pu w4 w') => (hr4.pu hp).cell 0 (by simp)
      simp at hx4
      have HX4 := Lib.hid hx4
      clear hch4 hx4 hr4 hp4
      apply region_pu (Φs := (Is _ :: Is _ :: Is _ :: Is _ :: Is _ :: Is _ :: Is _ :: Is _ :: Is _ :: Is _ :: Is _ :: Is _ :: Is _ :: Is _ :: Is _ :: [])) (hm := by kernel_rfl) (hE := by kernel_rfl) (hD := by kernel_rfl) (hsize := by kernel_rfl)
      case hop =>
        refine ⟨?_, ?_, ?_, ?_, ?_, ?_, ?_, ?_, ?_, ?_, ?_, ?_, ?_, ?_, ?_, trivial⟩
        · intro a' w' hs hp he
          have e6 := hs 6 (by kernel_rfl)
          try simp [Is, Region.binds] at he
          exact op_val rfl (wanted_none rfl) (by first | (go_simp; done) | (go_simp; rfl) | (simp [execOp, Act.eval, go_sem, *]; done) | (simp [execOp, Act.eval, go_sem, *]; rfl)) rfl (Pu.refl _)
        · intro a' w' hs hp he
          try simp [Is, Region.binds] at he
          have hc := HX4.out _ hp; exact op_val rfl (wanted_none rfl) (by first | (go_simp; done) | (go_simp; rfl)) rfl (Pu.refl _)
        · intro a' w' hs hp he
          have e0 := hs 0 (by kernel_rfl)
          try simp [Is, Region.binds] at he
          exact op_val rfl (wanted_none rfl) (by first | (go_simp; done) | (go_simp; rfl) | (simp [execOp, Act.eval, go_sem, *]; done) | (simp [execOp, Act.eval, go_sem, *]; rfl)) rfl (Pu.refl _)
        · intro a' w' hs hp he
          try simp [Is, Region.binds] at he
          exact op_val rfl (wanted_none rfl) (by first | (go_simp; done) | (go_simp; rfl) | (simp [execOp, Act.eval, go_sem, *]; done) | (simp [execOp, Act.eval, go_sem, *]; rfl)) rfl (Pu.refl _)
        · intro a' w' hs hp he
          try simp [Is, Region.binds] at he
          exact op_val rfl (wanted_none rfl) (by first | (go_simp; done) | (go_simp; rfl) | (simp [execOp, Act.eval, go_sem, *]; done) | (simp [execOp, Act.eval, go_sem, *]; rfl)) rfl (Pu.refl _)
        · intro a' w' hs hp he
          try simp [Is, Region.binds] at he
          exact op_val rfl (wanted_none rfl) (by first | (go_simp; done) | (go_simp; rfl) | (simp [execOp, Act.eval, go_sem, *]; done) | (simp [execOp, Act.eval, go_sem, *]; rfl)) rfl (Pu.refl _)
        · intro a' w' hs hp he
          try simp [Is, Region.binds] at he
          obtain ⟨c1, c2, c3, c4⟩ := HC4.out _ hp; exact op_val rfl (wanted_none rfl) (by first | (go_simp; done) | (go_simp; rfl)) rfl (Pu.refl _)
        · intro a' w' hs hp he
          have e0 := hs 0 (by kernel_rfl)
          try simp [Is, Region.binds] at he
          exact op_val rfl (wanted_none rfl) (by first | (go_simp; done) | (go_simp; rfl) | (simp [execOp, Act.eval, go_sem, *]; done) | (simp [execOp, Act.eval, go_sem, *]; rfl)) rfl (Pu.refl _)
        · intro a' w' hs hp he
          try simp [Is, Region.binds] at he
          exact op_val rfl (wanted_none rfl) (by first | (go_simp; done) | (go_simp; rfl) | (simp [execOp, Act.eval, go_sem, *]; done) | (simp [execOp, Act.eval, go_sem, *]; rfl)) rfl (Pu.refl _)
        · intro a' w' hs hp he
          try simp [Is, Region.binds] at he
          exact op_val rfl (wanted_none rfl) (by first | (go_simp; done) | (go_simp; rfl) | (simp [execOp, Act.eval, go_sem, *]; done) | (simp [execOp, Act.eval, go_sem, *]; rfl)) rfl (Pu.refl _)
        · intro a' w' hs hp he
          try simp [Is, Region.binds] at he
          obtain ⟨c1, c2, c3, c4⟩ := HC4.out _ hp; exact op_val rfl (wanted_none rfl) (by first | (go_simp; done) | (go_simp; rfl)) rfl (Pu.refl _)
        · intro a' w' hs hp he
          try simp [Is, Region.binds] at he
          exact op_callP (HFI.out _) rfl (wanted_none rfl) (by first | (go_simp; done) | (go_simp; rfl)) (fun _ => rfl)
        · intro a' w' hs hp he
          try simp [Is, Region.binds] at he
          exact op_callP (HSA.out _) rfl (wanted_none rfl) (by first | (go_simp; done) | (go_simp; rfl)) (fun _ => rfl)
        · intro a' w' hs hp he
          try simp [Is, Region.binds] at he
          exact op_val rfl (wanted_none rfl) (by first | (go_simp; done) | (go_simp; rfl) | (simp [execOp, Act.eval, go_sem, *]; done) | (simp [execOp, Act.eval, go_sem, *]; rfl)) rfl (Pu.refl _)
        · intro a' w' hs hp he
          try simp [Is, Region.binds] at he
          exact op_val rfl (wanted_none rfl) (by first | (go_simp; done) | (go_simp; rfl) | (simp [execOp, Act.eval, go_sem, *]; done) | (simp [execOp, Act.eval, go_sem, *]; rfl)) rfl (Pu.refl _)
      case hend =>
        intro a' w' hdef hsz hs hp hall
        obtain ⟨r0, r1, r2, r3, r4, r5, r6, r7, r8, r9, r10, r11, r12, r13, r14, -⟩ := hall
        have hA := agree_done (agree_step (agree_step (agree_step (agree_step (agree_step (agree_step (agree_step (agree_step (agree_step (agree_step (agree_step (agree_step (agree_step (agree_step (agree_step (agree_init [22, 23, 24, 25, 26, 27, 28, 29, 30, 31, 32, 33, 34, 35, 21] hsz hs (by kernel_rfl)) r0) r1) r2) r3) r4) r5) r6) r7) r8) r9) r10) r11) r12) r13) r14)
        have ha := act_of hA hdef
        rw [ha]
        clear ha hA hs hsz hdef r0 r1 r2 r3 r4 r5 r6 r7 r8 r9 r10 r11 r12 r13 r14 
        (try simp only [List.setIfInBounds_toArray])
        (try dsimp only [List.set_cons_zero, List.set_cons_succ])
        (try simp only [Exit.then])
        have h5 := h4.pu hp
        have hp05 := hp04.trans hp
        have hr05 := hr04.pu hp
        rename World => w5
        clear hp hp04 hr04 h4 HC4 HX4
        simp only [Option.isSome_some, if_true]
        have y4 := h5.fr 4 (by decide)
        obtain ⟨c1, c2, c3, c4⟩ := h5.cells
        have h6 := HSET.out _ h5
        have hb6 := (But.pu hp05).trans (But.set (g := gb) w5 4 (.int .i64 2))
        have hr6 := hr05.setOther ⟨gb, 4, none⟩ (.int .i64 2) (by show w.heap.size ≠ gb; omega)
        go_wp2_with (go_at_call 47; refine (store64 ⟨gb, 4, none⟩ (.int .i64 1) 2 _ c4 y4).mono ?_; rintro e w6 ⟨rfl, rfl⟩)
        obtain ⟨w6, hw6⟩ : ∃ w6, w6 = w5.setCell ⟨gb, 4, none⟩ (.int .i64 2) := ⟨_, rfl⟩
        rw [← hw6] at h6 hb6 hr6 ⊢
        clear hw6 c1 c2 c3 c4 y4 h5 hp05 hr05
        have hne : gb ≠ w.heap.size := by omega
        have hcells : ∀ w', But w.heap.size w6 w' → w'.cell? ⟨gb, 1, none⟩ = some (S secret) ∧ w'.cell? ⟨gb, 3, none⟩ = some (S papers) := fun w' hp => by
          have hg : GuestAt w' gb name secret nonce papers 2 := hp.row (xs := guestC name secret nonce papers 2) h6 hne
          obtain ⟨c1, -, c3, -⟩ := hg.cells
          exact ⟨c1, c3⟩
        have HCL := Lib.hid hcells
        clear hcells
        apply region_chain (g := w.heap.size) (chain := [10]) (C := (fun s w' => Row w' w.heap.size 44 (if s = 0 then [S [], S []] else [S ka, S kb]))) (Φs := (Is _ :: Is _ :: Is _ :: Is _ :: Is _ :: Is _ :: Is _ :: Is _ :: Is _ :: Is _ :: Is _ :: Is _ :: [])) (hm := by kernel_rfl) (hE := by kernel_rfl) (hD := by kernel_rfl) (hup := by kernel_rfl) (hch := by kernel_rfl) (hsize := by kernel_rfl)
        case hC =>
          intro s a b h hp
          exact Row.pu h hp
        case hC0 =>
          exact hr6
        case hop =>
          refine ⟨?_, ?_, ?_, ?_, ?_, ?_, ?_, ?_, ?_, ?_, ?_, ?_, trivial⟩
          · intro a' w' s hs hp hC hlo hhi he
            rw [if_neg (by decide)]
            clear hlo hhi
            have e0 := hs 0 (by kernel_rfl)
            try simp [Is, Region.binds] at he
            exact op_val rfl (wanted_none rfl) (by first | (go_simp; done) | (go_simp; rfl) | (simp [execOp, Act.eval, go_sem, *]; done) | (simp [execOp, Act.eval, go_sem, *]; rfl)) rfl (Pu.refl _)
          · intro a' w' s hs hp hC hlo hhi he
            rw [if_neg (by decide)]
            clear hlo hhi
            try simp [Is, Region.binds] at he
            exact op_val rfl (wanted_none rfl) (by first | (go_simp; done) | (go_simp; rfl) | (simp [execOp, Act.eval, go_sem, *]; done) | (simp [execOp, Act.eval, go_sem, *]; rfl)) rfl (Pu.refl _)
          · intro a' w' s hs hp hC hlo hhi he
            rw [if_neg (by decide)]
            clear hlo hhi
            try simp [Is, Region.binds] at he
            exact op_val rfl (wanted_none rfl) (by first | (go_simp; done) | (go_simp; rfl) | (simp [execOp, Act.eval, go_sem, *]; done) | (simp [execOp, Act.eval, go_sem, *]; rfl)) rfl (Pu.refl _)
          · intro a' w' s hs hp hC hlo hhi he
            rw [if_neg (by decide)]
            clear hlo hhi
            try simp [Is, Region.binds] at he
            exact op_val rfl (wanted_none rfl) (by first | (go_simp; done) | (go_simp; rfl) | (simp [execOp, Act.eval, go_sem, *]; done) | (simp [execOp, Act.eval, go_sem, *]; rfl)) rfl (Pu.refl _)
          · intro a' w' s hs hp hC hlo hhi he
            rw [if_neg (by decide)]
            clear hlo hhi
            try simp [Is, Region.binds] at he
            obtain ⟨c1, c3⟩ := HCL.out _ hp; exact op_val rfl (wanted_none rfl) (by first | (go_simp; done) | (go_simp; rfl)) rfl (Pu.refl _)
          · intro a' w' s hs hp hC hlo hhi he
            rw [if_neg (by decide)]
            clear hlo hhi
            have e0 := hs 0 (by kernel_rfl)
            try simp [Is, Region.binds] at he
            exact op_val rfl (wanted_none rfl) (by first | (go_simp; done) | (go_simp; rfl) | (simp [execOp, Act.eval, go_sem, *]; done) | (simp [execOp, Act.eval, go_sem, *]; rfl)) rfl (Pu.refl _)
          · intro a' w' s hs hp hC hlo hhi he
            rw [if_neg (by decide)]
            clear hlo hhi
            try simp [Is, Region.binds] at he
            exact op_val rfl (wanted_none rfl) (by first | (go_simp; done) | (go_simp; rfl) | (simp [execOp, Act.eval, go_sem, *]; done) | (simp [execOp, Act.eval, go_sem, *]; rfl)) rfl (Pu.refl _)
          · intro a' w' s hs hp hC hlo hhi he
            rw [if_neg (by decide)]
            clear hlo hhi
            try simp [Is, Region.binds] at he
            exact op_val rfl (wanted_none rfl) (by first | (go_simp; done) | (go_simp; rfl) | (simp [execOp, Act.eval, go_sem, *]; done) | (simp [execOp, Act.eval, go_sem, *]; rfl)) rfl (Pu.refl _)
          · intro a' w' s hs hp hC hlo hhi he
            rw [if_neg (by decide)]
            clear hlo hhi
            try simp [Is, Region.binds] at he
            obtain ⟨c1, c3⟩ := HCL.out _ hp; exact op_val rfl (wanted_none rfl) (by first | (go_simp; done) | (go_simp; rfl)) rfl (Pu.refl _)
          · intro a' w' s hs hp hC hlo hhi he
            rw [if_neg (by decide)]
            clear hlo hhi
            try simp [Is, Region.binds] at he
            exact op_callP (HKE.out _) rfl (wanted_none rfl) (by first | (go_simp; done) | (go_simp; rfl)) (fun _ => rfl)
          · intro a' w' s hs hp hC hlo hhi he
            rw [if_pos (by decide)]; intro hsc; clear hsc
            have hs0 : s = 0 := Nat.le_antisymm (Nat.le_trans hhi (Nat.le_of_eq (by kernel_rfl))) (Nat.le_trans (Nat.le_of_eq (by kernel_rfl)) hlo)
            subst hs0
            clear hlo hhi
            have e4 := hs 4 (by kernel_rfl)
            try simp [Is, Region.binds] at he
            simp at hC; have hst := hC.store (P := Tryz.prog) 44 0 [S ka, S kb] (by exact hi2) (by simp) (by simp [Value.oneCell']); have hr9 := Row.setCells [S ka, S kb] 0 w' _ hC; rw [splice_all (by rfl)] at hr9; exact op_storeC rfl rfl 44 (.tmp 4) (.tmp 50) rfl ⟨w.heap.size, 0, none⟩ (by first | exact e4 | (simp [Act.eval, e4])) (by first | exact he | (simp [Act.eval, he])) hst rfl (by simpa using hr9) (Chg.setCells w.heap.size [S ka, S kb] 0 w').but
          · intro a' w' s hs hp hC hlo hhi he
            rw [if_neg (by decide)]
            clear hlo hhi
            try simp [Is, Region.binds] at he
            exact op_val rfl (wanted_none rfl) (by first | (go_simp; done) | (go_simp; rfl) | (simp [execOp, Act.eval, go_sem, *]; done) | (simp [execOp, Act.eval, go_sem, *]; rfl)) rfl (Pu.refl _)
        case hend =>
          intro a' w' hdef hsz hs hp hC hall
          obtain ⟨r0, r1, r2, r3, r4, r5, r6, r7, r8, r9, r10, r11, -⟩ := hall
          have hA := agree_done (agree_step (agree_step (agree_step (agree_step (agree_step (agree_step (agree_step (agree_step (agree_step (agree_step (agree_step (agree_init [41, 42, 43, 44, 45, 46, 47, 48, 49, 50, 5] hsz hs (by kernel_rfl)) r0) r1) r2) r3) r4) r5) r6) r7) r8) r9) r11)
          have ha := act_of hA hdef
          rw [ha]
          clear ha hA hs hsz hdef r0 r1 r2 r3 r4 r5 r6 r7 r8 r9 r10 r11 
          (try simp only [List.setIfInBounds_toArray])
          (try dsimp only [List.set_cons_zero, List.set_cons_succ])
          (try simp only [Exit.then])
          simp at hC
          go_wp2_with fail
          have hrl := hC.load (P := Tryz.prog) 44 0 2 Tryz.underlying44 rfl hi2 (by simp)
          have hbf : But gb w w' := ⟨hp.os.trans hb6.os, hp.tape.trans hb6.tape, hp.output.trans hb6.output, Nat.le_trans hb6.size hp.size, fun k hk hne => (hp.block k (by have := hb6.size; omega) (by omega)).trans (hb6.block k hk hne)⟩
          (try simp only [Exit.inBlock, Exit.then])
          refine bodyPost_ret (results_cell_slot rfl _ _ rfl rfl hrl) rfl ?_
          exact ⟨rfl, hp.row (xs := guestC name secret nonce papers 2) h6 hne, hbf⟩
    · rw [if_neg hx]
      rw [show decide (x = f) = false by simp [hx]] at hSa
      have HSA := Lib.hid hSa
      clear e9 hA hG hG' hf h hFi hSa hKe hset hfe hx
      go_enter Tryz.func22, Tryz.ntmps22
      go_wp2_with (first
        | (go_at_call 45; refine HA.out.mono ?_; rintro e w1 ⟨rfl, rfl⟩)
        | (go_at_call 52; refine (HG.out _).mono ?_; rintro e w2 ⟨rfl, hp2⟩)
        | (refine wpList_store_part rfl 102 (.tmp 6) (.tmp 15) rfl w2.heap.size 0 [S x] (by rfl) (by rfl) (Row.newAt w2 w2.heap.size _ _ rfl rfl) hi1 (by simp) (by simp [Value.oneCell']) ?_; intro w4 hr4 hch4
           have hp4 := hch4.below (hp2.alloc (.cells #[.string ⟨#[]⟩] 102)) hp2.size))
      rw [splice_all (by rfl)] at hr4
      have hp04 : Pu w w4 := hp0.trans hp4
      have hr04 := hr0.pu hp4
      have h4 := H.out.pu hp04
      have HC4 := Lib.hid (fun w' (hp : Pu w4 w') => (h4.pu hp).cells)
      have hx4 := fun w' (hp : Pu w4 w') => (hr4.pu hp).cell 0 (by simp)
      simp at hx4
      have HX4 := Lib.hid hx4
      clear hch4 hx4 hr4 hp4
      apply region_pu (Φs := (Is _ :: Is _ :: Is _ :: Is _ :: Is _ :: Is _ :: Is _ :: Is _ :: Is _ :: Is _ :: Is _ :: Is _ :: Is _ :: Is _ :: Is _ :: [])) (hm := by kernel_rfl) (hE := by kernel_rfl) (hD := by kernel_rfl) (hsize := by kernel_rfl)
      case hop =>
        refine ⟨?_, ?_, ?_, ?_, ?_, ?_, ?_, ?_, ?_, ?_, ?_, ?_, ?_, ?_, ?_, trivial⟩
        · intro a' w' hs hp he
          have e6 := hs 6 (by kernel_rfl)
          try simp [Is, Region.binds] at he
          exact op_val rfl (wanted_none rfl) (by first | (go_simp; done) | (go_simp; rfl) | (simp [execOp, Act.eval, go_sem, *]; done) | (simp [execOp, Act.eval, go_sem, *]; rfl)) rfl (Pu.refl _)
        · intro a' w' hs hp he
          try simp [Is, Region.binds] at he
          have hc := HX4.out _ hp; exact op_val rfl (wanted_none rfl) (by first | (go_simp; done) | (go_simp; rfl)) rfl (Pu.refl _)
        · intro a' w' hs hp he
          have e0 := hs 0 (by kernel_rfl)
          try simp [Is, Region.binds] at he
          exact op_val rfl (wanted_none rfl) (by first | (go_simp; done) | (go_simp; rfl) | (simp [execOp, Act.eval, go_sem, *]; done) | (simp [execOp, Act.eval, go_sem, *]; rfl)) rfl (Pu.refl _)
        · intro a' w' hs hp he
          try simp [Is, Region.binds] at he
          exact op_val rfl (wanted_none rfl) (by first | (go_simp; done) | (go_simp; rfl) | (simp [execOp, Act.eval, go_sem, *]; done) | (simp [execOp, Act.eval, go_sem, *]; rfl)) rfl (Pu.refl _)
        · intro a' w' hs hp he
          try simp [Is, Region.binds] at he
          exact op_val rfl (wanted_none rfl) (by first | (go_simp; done) | (go_simp; rfl) | (simp [execOp, Act.eval, go_sem, *]; done) | (simp [execOp, Act.eval, go_sem, *]; rfl)) rfl (Pu.refl _)
        · intro a' w' hs hp he
          try simp [Is, Region.binds] at he
          exact op_val rfl (wanted_none rfl) (by first | (go_simp; done) | (go_simp; rfl) | (simp [execOp, Act.eval, go_sem, *]; done) | (simp [execOp, Act.eval, go_sem, *]; rfl)) rfl (Pu.refl _)
        · intro a' w' hs hp he
          try simp [Is, Region.binds] at he
          obtain ⟨c1, c2, c3, c4⟩ := HC4.out _ hp; exact op_val rfl (wanted_none rfl) (by first | (go_simp; done) | (go_simp; rfl)) rfl (Pu.refl _)
        · intro a' w' hs hp he
          have e0 := hs 0 (by kernel_rfl)
          try simp [Is, Region.binds] at he
          exact op_val rfl (wanted_none rfl) (by first | (go_simp; done) | (go_simp; rfl) | (simp [execOp, Act.eval, go_sem, *]; done) | (simp [execOp, Act.eval, go_sem, *]; rfl)) rfl (Pu.refl _)
        · intro a' w' hs hp he
          try simp [Is, Region.binds] at he
          exact op_val rfl (wanted_none rfl) (by first | (go_simp; done) | (go_simp; rfl) | (simp [execOp, Act.eval, go_sem, *]; done) | (simp [execOp, Act.eval, go_sem, *]; rfl)) rfl (Pu.refl _)
        · intro a' w' hs hp he
          try simp [Is, Region.binds] at he
          exact op_val rfl (wanted_none rfl) (by first | (go_simp; done) | (go_simp; rfl) | (simp [execOp, Act.eval, go_sem, *]; done) | (simp [execOp, Act.eval, go_sem, *]; rfl)) rfl (Pu.refl _)
        · intro a' w' hs hp he
          try simp [Is, Region.binds] at he
          obtain ⟨c1, c2, c3, c4⟩ := HC4.out _ hp; exact op_val rfl (wanted_none rfl) (by first | (go_simp; done) | (go_simp; rfl)) rfl (Pu.refl _)
        · intro a' w' hs hp he
          try simp [Is, Region.binds] at he
          exact op_callP (HFI.out _) rfl (wanted_none rfl) (by first | (go_simp; done) | (go_simp; rfl)) (fun _ => rfl)
        · intro a' w' hs hp he
          try simp [Is, Region.binds] at he
          exact op_callP (HSA.out _) rfl (wanted_none rfl) (by first | (go_simp; done) | (go_simp; rfl)) (fun _ => rfl)
        · intro a' w' hs hp he
          try simp [Is, Region.binds] at he
          exact op_val rfl (wanted_none rfl) (by first | (go_simp; done) | (go_simp; rfl) | (simp [execOp, Act.eval, go_sem, *]; done) | (simp [execOp, Act.eval, go_sem, *]; rfl)) rfl (Pu.refl _)
        · intro a' w' hs hp he
          try simp [Is, Region.binds] at he
          exact op_val rfl (wanted_none rfl) (by first | (go_simp; done) | (go_simp; rfl) | (simp [execOp, Act.eval, go_sem, *]; done) | (simp [execOp, Act.eval, go_sem, *]; rfl)) rfl (Pu.refl _)
      case hend =>
        intro a' w' hdef hsz hs hp hall
        obtain ⟨r0, r1, r2, r3, r4, r5, r6, r7, r8, r9, r10, r11, r12, r13, r14, -⟩ := hall
        have hA := agree_done (agree_step (agree_step (agree_step (agree_step (agree_step (agree_step (agree_step (agree_step (agree_step (agree_step (agree_step (agree_step (agree_step (agree_step (agree_step (agree_init [22, 23, 24, 25, 26, 27, 28, 29, 30, 31, 32, 33, 34, 35, 21] hsz hs (by kernel_rfl)) r0) r1) r2) r3) r4) r5) r6) r7) r8) r9) r10) r11) r12) r13) r14)
        have ha := act_of hA hdef
        rw [ha]
        clear ha hA hs hsz hdef r0 r1 r2 r3 r4 r5 r6 r7 r8 r9 r10 r11 r12 r13 r14 
        (try simp only [List.setIfInBounds_toArray])
        (try dsimp only [List.set_cons_zero, List.set_cons_succ])
        (try simp only [Exit.then])
        have h5 := h4.pu hp
        have hp05 := hp04.trans hp
        have hr05 := hr04.pu hp
        rename World => w5
        clear hp hp04 hr04 h4 HC4 HX4
        simp only [Option.isSome_some, if_true]
        go_wp2_with (refine wpList_store_part rfl 44 (.tmp 4) (.tmp 36) rfl w.heap.size 0 [S [], S []] (by rfl) (by rfl) hr05 hi2 (by simp) (by simp [Value.oneCell']) ?_; intro w9 hr9 hch9)
        rw [splice_all (by rfl)] at hr9
        have hrl := hr9.load (P := Tryz.prog) 44 0 2 Tryz.underlying44 rfl hi2 (by simp)
        (try simp only [Exit.inBlock, Exit.then])
        refine bodyPost_ret (results_cell_slot rfl _ _ rfl rfl hrl) rfl ?_
        have hp9 := hch9.below hp05 (Nat.le_refl _)
        exact ⟨rfl, H.out.pu hp9, But.pu hp9⟩
end Go.Proofs.YtlbdbmnkjljohaaGreat
set_option linter.unusedSimpArgs false
set_option linter.unusedVariables false
namespace Go.Proofs.YtlbdbmnkjljohaaGreat
open Go.RowKit Go.Esc
theorem rowNe {w : World} {g h : Nat} {e e' : TypeId} {xs ys : List Value} (hg : Row w g e xs) (hh : Row w h e' ys) (hne : e ≠ e') : g ≠ h := by
  rintro rfl
  obtain ⟨c, fr, h1, _⟩ := hg
  obtain ⟨c', fr', h2, _⟩ := hh
  rw [h1] at h2
  cases h2
  exact hne rfl
theorem puDrew (w : World) : Pu w { w with drawn := w.drawn + 1 } := ⟨rfl, rfl, rfl, Nat.le_refl _, fun _ _ => rfl⟩
/-- What a host holds. -/
structure HSt where
  got : Nat
  bad : Bool
  user : Bs
  papers : Bs
  done : Bool
  up : Bs
  down : Bs
def hostV (ub : Nat) (nonce : Bs) (s : HSt) (o0 o1 : Int) : List Value := [.pointer (some ⟨ub, 0, none⟩), S nonce, .int .i64 (s.got : Int), .bool s.bad, S s.user, S s.papers, .int .u32 o0, .int .i32 o1, .int .u32 0, .bool s.done, S s.up, S s.down]
def hostC (ub : Nat) (nonce : Bs) (s : HSt) : List Value := hostV ub nonce s (if s.done then 1 else 0) 0
def HostAt (w : World) (hb ub : Nat) (nonce : Bs) (s : HSt) : Prop := Row w hb 123 (hostC ub nonce s)
def upL (sec papers : Bs) : Bs := deriveL sec (sha papers) upW
def downL (sec papers : Bs) : Bs := deriveL sec (sha papers) downW
theorem sesV_eq (sec papers : Bs) : sesV sec papers = [S (upL sec papers), S (downL sec papers)] := rfl
set_option maxRecDepth 100000 in
set_option maxHeartbeats 1600000 in
theorem hostSet (sb pb hb ub : Nat) (sec nonce : Bs) (s : HSt) (w : World) (hs : sec.length ≤ 100000) (hp : s.papers.length ≤ 100000)
    (h1 : Row w sb 9 [S sec]) (h2 : Row w pb 56 [.pointer (some ⟨hb, 0, none⟩)]) (h3 : Row w hb 123 (hostV ub nonce s 0 1)) :
    Calls Tryz.prog 86 #[.pointer (some ⟨sb, 0, none⟩), .pointer (some ⟨pb, 0, none⟩)] w fun e w' => e = .returned (.tuple #[]) ∧ Row w' hb 123 (hostV ub nonce { s with done := true, up := upL sec s.papers, down := downL sec s.papers } 0 1) ∧ But hb w w' := by
  have hi2 : (Tryz.prog.info? 44).map (·.size) = some 2 := by kernel_rfl
  have hKe := fun w => keysW sec s.papers hs hp w
  rw [sesV_eq] at hKe
  obtain ⟨a, ha⟩ : ∃ a, a = upL sec s.papers := ⟨_, rfl⟩
  obtain ⟨b, hb'⟩ : ∃ a, a = downL sec s.papers := ⟨_, rfl⟩
  rw [← ha, ← hb'] at hKe ⊢
  have HKE := Lib.hid hKe
  have n1 : sb ≠ hb := rowNe h1 h3 (by decide)
  have n2 : pb ≠ hb := rowNe h2 h3 (by decide)
  clear hKe ha hb'
  go_enter Tryz.func86, Tryz.ntmps86
  apply region_chain (g := hb) (chain := [10, 13]) (C := (fun q w' => Row w' hb 123 (hostV ub nonce { s with done := if q = 0 then s.done else true, up := if q = 2 then a else s.up, down := if q = 2 then b else s.down } 0 1))) (Φs := (Is _ :: Is _ :: Is _ :: Is _ :: Is _ :: Is _ :: Is _ :: Is _ :: Is _ :: Is _ :: Is _ :: Is _ :: Is _ :: Is _ :: [])) (hm := by kernel_rfl) (hE := by kernel_rfl) (hD := by kernel_rfl) (hup := by kernel_rfl) (hch := by kernel_rfl) (hsize := by kernel_rfl)
  case hC =>
    intro s a b h hp
    exact Row.pu h hp
  case hC0 =>
    exact h3
  case hop =>
    refine ⟨?_, ?_, ?_, ?_, ?_, ?_, ?_, ?_, ?_, ?_, ?_, ?_, ?_, ?_, trivial⟩
    · intro a' w' s hs hp hC hlo hhi he
      rw [if_neg (by decide)]
      clear hlo hhi
      have e1 := hs 1 (by kernel_rfl)
      try simp [Is, Region.binds] at he
      have hc := (hp.row h2 n2).cell 0 (by simp); simp at hc; exact op_val rfl (wanted_none rfl) (by first | (go_simp; done) | (go_simp; rfl)) rfl (Pu.refl _)
    · intro a' w' s hs hp hC hlo hhi he
      rw [if_neg (by decide)]
      clear hlo hhi
      have e1 := hs 1 (by kernel_rfl)
      try simp [Is, Region.binds] at he
      have hc := (hp.row h2 n2).cell 0 (by simp); simp at hc; exact op_val rfl (wanted_none rfl) (by first | (go_simp; done) | (go_simp; rfl)) rfl (Pu.refl _)
    · intro a' w' s hs hp hC hlo hhi he
      rw [if_neg (by decide)]
      clear hlo hhi
      have e0 := hs 0 (by kernel_rfl)
      try simp [Is, Region.binds] at he
      have hc := (hp.row h1 n1).cell 0 (by simp); simp at hc; exact op_val rfl (wanted_none rfl) (by first | (go_simp; done) | (go_simp; rfl)) rfl (Pu.refl _)
    · intro a' w' s hs hp hC hlo hhi he
      rw [if_neg (by decide)]
      clear hlo hhi
      have e1 := hs 1 (by kernel_rfl)
      try simp [Is, Region.binds] at he
      have hc := (hp.row h2 n2).cell 0 (by simp); simp at hc; exact op_val rfl (wanted_none rfl) (by first | (go_simp; done) | (go_simp; rfl)) rfl (Pu.refl _)
    · intro a' w' s hs hp hC hlo hhi he
      rw [if_neg (by decide)]
      clear hlo hhi
      try simp [Is, Region.binds] at he
      exact op_val rfl (wanted_none rfl) (by first | (go_simp; done) | (go_simp; rfl) | (simp [execOp, Act.eval, go_sem, *]; done) | (simp [execOp, Act.eval, go_sem, *]; rfl)) rfl (Pu.refl _)
    · intro a' w' s hs hp hC hlo hhi he
      rw [if_neg (by decide)]
      clear hlo hhi
      try simp [Is, Region.binds] at he
      exact op_val rfl (wanted_none rfl) (by first | (go_simp; done) | (go_simp; rfl) | (simp [execOp, Act.eval, go_sem, *]; done) | (simp [execOp, Act.eval, go_sem, *]; rfl)) rfl (Pu.refl _)
    · intro a' w' s hs hp hC hlo hhi he
      rw [if_neg (by decide)]
      clear hlo hhi
      try simp [Is, Region.binds] at he
      have hc := hC.cell 5 (by simp [hostV]); simp [hostV] at hc; clear hC; exact op_val rfl (wanted_none rfl) (by first | (go_simp; done) | (go_simp; rfl)) rfl (Pu.refl _)
    · intro a' w' s hs hp hC hlo hhi he
      rw [if_neg (by decide)]
      clear hlo hhi
      try simp [Is, Region.binds] at he
      exact op_callP (HKE.out _) rfl (wanted_none rfl) (by first | (go_simp; done) | (go_simp; rfl)) (fun _ => rfl)
    · intro a' w' s hs hp hC hlo hhi he
      rw [if_neg (by decide)]
      clear hlo hhi
      try simp [Is, Region.binds] at he
      exact op_val rfl (wanted_none rfl) (by first | (go_simp; done) | (go_simp; rfl) | (simp [execOp, Act.eval, go_sem, *]; done) | (simp [execOp, Act.eval, go_sem, *]; rfl)) rfl (Pu.refl _)
    · intro a' w' s hs hp hC hlo hhi he
      rw [if_neg (by decide)]
      clear hlo hhi
      try simp [Is, Region.binds] at he
      exact op_val rfl (wanted_none rfl) (by first | (go_simp; done) | (go_simp; rfl) | (simp [execOp, Act.eval, go_sem, *]; done) | (simp [execOp, Act.eval, go_sem, *]; rfl)) rfl (Pu.refl _)
    · intro a' w' s hs hp hC hlo hhi he
      rw [if_pos (by decide)]; intro hsc; clear hsc
      have hs0 : s = 0 := Nat.le_antisymm (Nat.le_trans hhi (Nat.le_of_eq (by kernel_rfl))) (Nat.le_trans (Nat.le_of_eq (by kernel_rfl)) hlo)
      subst hs0
      clear hlo hhi
      try simp [Is, Region.binds] at he
      simp at hC; obtain ⟨u9, hc⟩ : ∃ u, w'.cell? ⟨hb, 9, none⟩ = some u := ⟨_, hC.cell 9 (by simp [hostV])⟩; have hf := hC.frozen 9 (by simp [hostV]); have h6 := hC.set 9 (.bool true); exact op_doneC rfl (wanted_none rfl) (by first | (go_simp; done) | (go_simp; rfl)) rfl (by simpa [hostV] using h6) (But.set _ _ _)
    · intro a' w' s hs hp hC hlo hhi he
      rw [if_neg (by decide)]
      clear hlo hhi
      try simp [Is, Region.binds] at he
      exact op_val rfl (wanted_none rfl) (by first | (go_simp; done) | (go_simp; rfl) | (simp [execOp, Act.eval, go_sem, *]; done) | (simp [execOp, Act.eval, go_sem, *]; rfl)) rfl (Pu.refl _)
    · intro a' w' s hs hp hC hlo hhi he
      rw [if_neg (by decide)]
      clear hlo hhi
      try simp [Is, Region.binds] at he
      exact op_val rfl (wanted_none rfl) (by first | (go_simp; done) | (go_simp; rfl) | (simp [execOp, Act.eval, go_sem, *]; done) | (simp [execOp, Act.eval, go_sem, *]; rfl)) rfl (Pu.refl _)
    · intro a' w' s hs hp hC hlo hhi he
      rw [if_pos (by decide)]; intro hsc; clear hsc
      have hs0 : s = 1 := Nat.le_antisymm (Nat.le_trans hhi (Nat.le_of_eq (by kernel_rfl))) (Nat.le_trans (Nat.le_of_eq (by kernel_rfl)) hlo)
      subst hs0
      clear hlo hhi
      try simp [Is, Region.binds] at he
      simp at hC; have hst := hC.store (P := Tryz.prog) 44 10 [S a, S b] (by exact hi2) (by simp [hostV]) (by simp [Value.oneCell']); have hr9 := Row.setCells [S a, S b] 10 w' _ hC; exact op_storeC rfl rfl 44 (.tmp 13) (.tmp 9) rfl ⟨hb, 10, none⟩ (by first | exact he.1 | exact he.2 | (simp [Act.eval, he])) (by first | exact he.1 | exact he.2 | (simp [Act.eval, he])) hst rfl (by simpa [hostV, splice] using hr9) (Chg.setCells hb [S a, S b] 10 w').but
  case hend =>
    intro a' w' hdef hsz hs hp hC hall
    obtain ⟨r0, r1, r2, r3, r4, r5, r6, r7, r8, r9, r10, r11, r12, r13, -⟩ := hall
    have hA := agree_done (agree_step (agree_step (agree_step (agree_step (agree_step (agree_step (agree_step (agree_step (agree_step (agree_step (agree_step (agree_step (agree_init [2, 3, 4, 5, 6, 7, 8, 9, 10, 11, 12, 13] hsz hs (by kernel_rfl)) r0) r1) r2) r3) r4) r5) r6) r7) r8) r9) r11) r12)
    have ha := act_of hA hdef
    rw [ha]
    clear ha hA hs hsz hdef r0 r1 r2 r3 r4 r5 r6 r7 r8 r9 r10 r11 r12 r13 
    (try simp only [List.setIfInBounds_toArray])
    (try dsimp only [List.set_cons_zero, List.set_cons_succ])
    (try simp only [Exit.then])
    simp at hC
    go_end0
    exact ⟨rfl, hC, hp⟩
end Go.Proofs.YtlbdbmnkjljohaaGreat
