/- Package shake: the host takes a proof. -/
import Derived.Test.YtlbdbmnkjljohaaGreatT14
set_option linter.unusedSimpArgs false
set_option linter.unusedVariables false
set_option linter.unusedSimpArgs false
set_option linter.unusedVariables false
namespace Go.Proofs.YtlbdbmnkjljohaaGreat
open Go.RowKit Go.Esc
/-- What becomes of a proof. -/
structure PrR where
  out : Bs
  err : Nat
  st : HSt
  l : List UserS
def provR (l : List UserS) (s : HSt) (b : Bs) (now : Int) : PrR := match fixR 3 32 b with
  | none => ⟨[], 2, s, l⟩
  | some m => match secV l s.user with
    | none => ⟨[], 6, s, l⟩
    | some sec => if lockV l s.user now = true then ⟨[], 6, s, l⟩
      else if m = proofL sec s.papers then ⟨4 :: finishL sec s.papers, 0, { s with done := true, up := upL sec s.papers, down := downL sec s.papers }, modN l s.user goodS⟩
      else ⟨[], 3, s, modN l s.user (failS now)⟩
theorem secV_len {l : List UserS} (hl : ∀ u ∈ l, u.secret.length = 32) {n sec : Bs} (h : secV l n = some sec) : sec.length = 32 := by
  unfold secV at h
  cases hp : posN l n with
  | none => rw [hp] at h; cases h
  | some i =>
    rw [hp] at h
    simp only [Option.bind_some] at h
    cases hu : l[i]? with
    | none => rw [hu] at h; cases h
    | some u =>
      rw [hu] at h
      cases h
      exact hl u (List.mem_of_getElem? hu)
/-- The world behind the first two steps of a proof. -/
structure PrW (G : Nat → Prop) (w0 w : World) (pb tb sb hb ub : Nat) (nonce : Bs) (s : HSt) (l : List UserS) (m sec : Bs) : Prop where
  p : Row w pb 56 [.pointer (some ⟨hb, 0, none⟩)]
  t : Row w tb 100 [S m]
  q : Row w sb 9 [S sec]
  h : HostAt w hb ub nonce s
  u : UsersAt G w ub l
  np : w0.heap.size ≤ pb
  nt : w0.heap.size ≤ tb
  ns : w0.heap.size ≤ sb
  hlt : hb < w0.heap.size
  dom : ∀ g, G g → g < w0.heap.size
  hn : ¬ G hb
  cg : Cg (fun g => G g ∨ g = hb) w0 w
theorem PrW.pu {G : Nat → Prop} {w0 w w' : World} {pb tb sb hb ub : Nat} {nonce : Bs} {s : HSt} {l : List UserS} {m sec : Bs} (h : PrW G w0 w pb tb sb hb ub nonce s l m sec) (hp : Pu w w') : PrW G w0 w' pb tb sb hb ub nonce s l m sec :=
  ⟨h.p.pu hp, h.t.pu hp, h.q.pu hp, h.h.pu hp, h.u.pu hp, h.np, h.nt, h.ns, h.hlt, h.dom, h.hn, h.cg.pu hp⟩
theorem PrW.users {G : Nat → Prop} {w0 w w' : World} {pb tb sb hb ub : Nat} {nonce : Bs} {s : HSt} {l l' : List UserS} {m sec : Bs} (h : PrW G w0 w pb tb sb hb ub nonce s l m sec) (hu : UsersAt G w' ub l') (hc : Cg G w w') : PrW G w0 w' pb tb sb hb ub nonce s l' m sec :=
  ⟨hc.row h.p (fun hg => by have := h.dom _ hg; have := h.np; omega), hc.row h.t (fun hg => by have := h.dom _ hg; have := h.nt; omega), hc.row h.q (fun hg => by have := h.dom _ hg; have := h.ns; omega), hc.row (xs := hostC ub nonce s) h.h h.hn, hu, h.np, h.nt, h.ns, h.hlt, h.dom, h.hn, h.cg.andThen hc (fun g hg => .inl (.inl hg))⟩
theorem PrW.host {G : Nat → Prop} {w0 w w' : World} {pb tb sb hb ub : Nat} {nonce : Bs} {s s' : HSt} {l : List UserS} {m sec : Bs} (h : PrW G w0 w pb tb sb hb ub nonce s l m sec) (hh : HostAt w' hb ub nonce s') (hc : But hb w w') : PrW G w0 w' pb tb sb hb ub nonce s' l m sec :=
  ⟨hc.row h.p (by have := h.np; have := h.hlt; omega), hc.row h.t (by have := h.nt; have := h.hlt; omega), hc.row h.q (by have := h.ns; have := h.hlt; omega), hh, h.u.cg (H := fun g => g = hb) ⟨hc.os, hc.tape, hc.output, hc.size, fun k hk hne => hc.block k hk hne⟩ (fun g hg hG => h.hn (hg ▸ hG)), h.np, h.nt, h.ns, h.hlt, h.dom, h.hn, h.cg.andThen (H := fun g => g = hb) ⟨hc.os, hc.tape, hc.output, hc.size, fun k hk hne => hc.block k hk hne⟩ (fun g hg => .inl (.inr hg))⟩
theorem PrW.cells {G : Nat → Prop} {w0 w : World} {pb tb sb hb ub : Nat} {nonce : Bs} {s : HSt} {l : List UserS} {m sec : Bs} (h : PrW G w0 w pb tb sb hb ub nonce s l m sec) : w.cell? ⟨pb, 0, none⟩ = some (.pointer (some ⟨hb, 0, none⟩)) ∧ w.cell? ⟨tb, 0, none⟩ = some (S m) ∧ w.cell? ⟨sb, 0, none⟩ = some (S sec) ∧ w.cell? ⟨hb, 0, none⟩ = some (.pointer (some ⟨ub, 0, none⟩)) ∧ w.cell? ⟨hb, 4, none⟩ = some (S s.user) ∧ w.cell? ⟨hb, 5, none⟩ = some (S s.papers) := by
  obtain ⟨c0, -, -, -, c4, c5, -⟩ := h.h.cells
  refine ⟨?_, ?_, ?_, c0, c4, c5⟩
  · have := h.p.cell 0 (by simp); simpa using this
  · have := h.t.cell 0 (by simp); simpa using this
  · have := h.q.cell 0 (by simp); simpa using this
set_option maxRecDepth 100000 in
set_option maxHeartbeats 3200000 in
theorem provedW {G : Nat → Prop} {w : World} {hb ub : Nat} {nonce : Bs} {s : HSt} {l : List UserS} (h : HostAt w hb ub nonce s) (hu : UsersAt G w ub l) (hnG : ¬ G hb) (hl : ∀ u ∈ l, u.secret.length = 32) (hul : s.user.length ≤ 1000000) (hpl : s.papers.length ≤ 10000) (hd : s.done = false) (b : Bs) (hbl : b.length ≤ 10000) (now : Int) (n1 : -9223372036854775808 ≤ now) (n2 : now ≤ 9223372036854775807) :
    Calls Tryz.prog 60 #[.pointer (some ⟨hb, 0, none⟩), S b, .int .i64 now] w fun e w' => e = .returned (.tuple #[S (provR l s b now).out, .int .i64 ((provR l s b now).err : Int)]) ∧ HostAt w' hb ub nonce (provR l s b now).st ∧ UsersAt G w' ub (provR l s b now).l ∧ Cg (fun g => G g ∨ g = hb) w w' := by
  have hi1 : (Tryz.prog.info? 100).map (·.size) = some 1 := by kernel_rfl
  have hG := fun w => getProof b (by omega) w
  have hlt : hb < w.heap.size := Row.lt (xs := hostC ub nonce s) h
  have hdom := hu.dom
  have hpb := (Pu.refl w).alloc (.cells #[.pointer (some ⟨hb, 0, none⟩)] 56)
  have hrb : Row (w.alloc (.cells #[.pointer (some ⟨hb, 0, none⟩)] 56)) w.heap.size 56 [.pointer (some ⟨hb, 0, none⟩)] := Row.newAt _ _ _ _ rfl rfl
  have H := Lib.hid h
  have HU := Lib.hid hu
  obtain ⟨sec, hsec⟩ : ∃ x, x = optV (secV l s.user) := ⟨_, rfl⟩
  obtain ⟨kn, hkn⟩ : ∃ x, x = (secV l s.user).isSome := ⟨_, rfl⟩
  have HSEC := Lib.hid (show (Value.tuple #[S (optV (secV l s.user)), .bool (secV l s.user).isSome]) = .tuple #[S sec, .bool kn] by rw [hsec, hkn])
  clear hsec hkn
  have hcase : fixR 3 32 b = none ∨ (∃ m, fixR 3 32 b = some m ∧ secV l s.user = none) ∨ (∃ m sc, fixR 3 32 b = some m ∧ secV l s.user = some sc ∧ lockV l s.user now = true) ∨
      (∃ m sc, fixR 3 32 b = some m ∧ secV l s.user = some sc ∧ lockV l s.user now = false ∧ m = proofL sc s.papers) ∨ (∃ m sc, fixR 3 32 b = some m ∧ secV l s.user = some sc ∧ lockV l s.user now = false ∧ m ≠ proofL sc s.papers) := by
    cases fixR 3 32 b with
    | none => exact .inl rfl
    | some m =>
      cases secV l s.user with
      | none => exact .inr (.inl ⟨m, rfl, rfl⟩)
      | some sc =>
        cases lockV l s.user now with
        | true => exact .inr (.inr (.inl ⟨m, sc, rfl, rfl, rfl⟩))
        | false =>
          by_cases h : m = proofL sc s.papers
          · exact .inr (.inr (.inr (.inl ⟨m, sc, rfl, rfl, rfl, h⟩)))
          · exact .inr (.inr (.inr (.inr ⟨m, sc, rfl, rfl, rfl, h⟩)))
  rcases hcase with hf | ⟨m, hf, hsv⟩ | ⟨m, sc, hf, hsv, hlk⟩ | ⟨m, sc, hf, hsv, hlk, hme⟩ | ⟨m, sc, hf, hsv, hlk, hme⟩
  · have e9 : provR l s b now = ⟨[], 2, s, l⟩ := by unfold provR; rw [hf]
    rw [e9]
    rw [hf] at hG
    obtain ⟨m, hm⟩ : ∃ m : Bs, m = [] := ⟨_, rfl⟩
    have hG' : ∀ w, Calls Tryz.prog 82 #[S b] w fun e w' => e = .returned (.tuple #[.agg #[S m], .bool false]) ∧ Pu w w' := by rw [hm]; exact hG
    have HG := Lib.hid hG'
    clear hG hG' hf e9 hm h hu
    go_enter Tryz.func60, Tryz.ntmps60
    go_wp2_with (first
      | (go_at_call 82; refine (HG.out _).mono ?_; rintro e w2 ⟨rfl, hp2⟩)
      | (refine wpList_store_part rfl 100 (.tmp 8) (.tmp 17) rfl w2.heap.size 0 [S m] (by rfl) (by rfl) (Row.newAt w2 w2.heap.size _ _ rfl rfl) hi1 (by simp) (by simp [Value.oneCell']) ?_; intro w4 hr4 hch4))
    rw [splice_all (by rfl)] at hr4
    have hp02 : Pu w w2 := Pu.trans hpb hp2
    have hp04 : Pu w w4 := hch4.below (hp02.alloc (.cells #[.string ⟨#[]⟩] 100)) hp02.size
    have hs24 := hp02.size
    have hb24 : Pu w2 w4 := hch4.below ((Pu.refl w2).alloc (.cells #[.string ⟨#[]⟩] 100)) (Nat.le_refl _)
    have hrp := (hrb.pu hp2).pu hb24
    have hh4 := H.out.pu hp04
    have hu4 := HU.out.pu hp04
    have hgs : ∀ g, G g → g < w4.heap.size := fun g hg => Nat.lt_of_lt_of_le (hdom g hg) hp04.size
    obtain ⟨N, hN⟩ : ∃ N, N = w4.heap.size := ⟨_, rfl⟩
    have npN : w.heap.size ≠ N := by have := hrp.lt; omega
    have nhN : hb ≠ N := by have := hp04.size; omega
    have hld : ∀ w', But N w4 w' → w'.cell? ⟨w.heap.size, 0, none⟩ = some (.pointer (some ⟨hb, 0, none⟩)) ∧ w'.cell? ⟨hb, 0, none⟩ = some (.pointer (some ⟨ub, 0, none⟩)) ∧ w'.cell? ⟨hb, 4, none⟩ = some (S s.user) := fun w' hp => by
      have h1 : HostAt w' hb ub nonce s := hp.row (xs := hostC ub nonce s) hh4 nhN
      obtain ⟨c0, -, -, -, c4, -, -⟩ := h1.cells
      have h2 := (hp.row hrp npN).cell 0 (by simp)
      simp at h2
      exact ⟨h2, c0, c4⟩
    have hse : ∀ w', But N w4 w' → Calls Tryz.prog 83 #[.pointer (some ⟨ub, 0, none⟩), S s.user] w' fun e w'' => e = .returned (.tuple #[S sec, .bool kn]) ∧ w'' = w' := fun w' hp => by
      have := secretW (hu4.cg (H := fun g => g = N) ⟨hp.os, hp.tape, hp.output, hp.size, fun k hk hne => hp.block k hk hne⟩ (fun g hg hG => by have := hgs g hG; omega)) s.user hul
      rw [HSEC.out] at this
      exact this
    have HLD := Lib.hid hld
    have HSE := Lib.hid hse
    have HN := Lib.hid hN
    clear hld hse hch4 hs24 hb24 hN
    apply region_still (g := N) (chain := [12, 13]) (C := (fun q w' => match q with | 0 => w'.heap.size = N | 1 => Row w' N 9 [S []] | _ => Row w' N 9 [S sec])) (Φs := (Is _ :: Is _ :: Is _ :: Is _ :: Is _ :: Is _ :: Is _ :: Is _ :: Is _ :: Is _ :: Is _ :: Is _ :: Is (.pointer (some ⟨N, 0, none⟩)) :: Is _ :: Is _ :: [])) (hm := by kernel_rfl) (hE := by kernel_rfl) (hD := by kernel_rfl) (hup := by kernel_rfl) (hch := by kernel_rfl) (hsize := by kernel_rfl)
    case hC =>
      intro s a b h hp
      match s, h with | 0, h => show b.heap.size = N; rw [hp.heap]; exact h | 1, h => exact Row.pu h hp.pu | (_+2), h => exact Row.pu h hp.pu
    case hC0 =>
      exact HN.out.symm
    case hop =>
      refine ⟨?_, ?_, ?_, ?_, ?_, ?_, ?_, ?_, ?_, ?_, ?_, ?_, ?_, ?_, ?_, trivial⟩
      · intro a' w' s hs hp hC hlo hhi he
        rw [if_neg (by decide)]
        clear hlo hhi
        have e3 := hs 3 (by kernel_rfl)
        try simp [Is, Region.binds] at he
        obtain ⟨c1, c2, c3⟩ := HLD.out _ hp; exact op_valS rfl (wanted_none rfl) (by first | (go_simp; done) | (go_simp; rfl)) rfl (Sm.refl _)
      · intro a' w' s hs hp hC hlo hhi he
        rw [if_neg (by decide)]
        clear hlo hhi
        try simp [Is, Region.binds] at he
        exact op_valS rfl (wanted_none rfl) (by first | (go_simp; done) | (go_simp; rfl) | (simp [execOp, Act.eval, go_sem, *]; done) | (simp [execOp, Act.eval, go_sem, *]; rfl)) rfl (Sm.refl _)
      · intro a' w' s hs hp hC hlo hhi he
        rw [if_neg (by decide)]
        clear hlo hhi
        try simp [Is, Region.binds] at he
        exact op_valS rfl (wanted_none rfl) (by first | (go_simp; done) | (go_simp; rfl) | (simp [execOp, Act.eval, go_sem, *]; done) | (simp [execOp, Act.eval, go_sem, *]; rfl)) rfl (Sm.refl _)
      · intro a' w' s hs hp hC hlo hhi he
        rw [if_neg (by decide)]
        clear hlo hhi
        try simp [Is, Region.binds] at he
        obtain ⟨c1, c2, c3⟩ := HLD.out _ hp; exact op_valS rfl (wanted_none rfl) (by first | (go_simp; done) | (go_simp; rfl)) rfl (Sm.refl _)
      · intro a' w' s hs hp hC hlo hhi he
        rw [if_neg (by decide)]
        clear hlo hhi
        have e3 := hs 3 (by kernel_rfl)
        try simp [Is, Region.binds] at he
        obtain ⟨c1, c2, c3⟩ := HLD.out _ hp; exact op_valS rfl (wanted_none rfl) (by first | (go_simp; done) | (go_simp; rfl)) rfl (Sm.refl _)
      · intro a' w' s hs hp hC hlo hhi he
        rw [if_neg (by decide)]
        clear hlo hhi
        try simp [Is, Region.binds] at he
        exact op_valS rfl (wanted_none rfl) (by first | (go_simp; done) | (go_simp; rfl) | (simp [execOp, Act.eval, go_sem, *]; done) | (simp [execOp, Act.eval, go_sem, *]; rfl)) rfl (Sm.refl _)
      · intro a' w' s hs hp hC hlo hhi he
        rw [if_neg (by decide)]
        clear hlo hhi
        try simp [Is, Region.binds] at he
        exact op_valS rfl (wanted_none rfl) (by first | (go_simp; done) | (go_simp; rfl) | (simp [execOp, Act.eval, go_sem, *]; done) | (simp [execOp, Act.eval, go_sem, *]; rfl)) rfl (Sm.refl _)
      · intro a' w' s hs hp hC hlo hhi he
        rw [if_neg (by decide)]
        clear hlo hhi
        try simp [Is, Region.binds] at he
        obtain ⟨c1, c2, c3⟩ := HLD.out _ hp; exact op_valS rfl (wanted_none rfl) (by first | (go_simp; done) | (go_simp; rfl)) rfl (Sm.refl _)
      · intro a' w' s hs hp hC hlo hhi he
        rw [if_neg (by decide)]
        clear hlo hhi
        try simp [Is, Region.binds] at he
        exact op_callS (HSE.out _ hp) rfl (wanted_none rfl) (by first | (go_simp; done) | (go_simp; rfl)) rfl
      · intro a' w' s hs hp hC hlo hhi he
        rw [if_neg (by decide)]
        clear hlo hhi
        try simp [Is, Region.binds] at he
        exact op_valS rfl (wanted_none rfl) (by first | (go_simp; done) | (go_simp; rfl) | (simp [execOp, Act.eval, go_sem, *]; done) | (simp [execOp, Act.eval, go_sem, *]; rfl)) rfl (Sm.refl _)
      · intro a' w' s hs hp hC hlo hhi he
        rw [if_neg (by decide)]
        clear hlo hhi
        try simp [Is, Region.binds] at he
        exact op_valS rfl (wanted_none rfl) (by first | (go_simp; done) | (go_simp; rfl) | (simp [execOp, Act.eval, go_sem, *]; done) | (simp [execOp, Act.eval, go_sem, *]; rfl)) rfl (Sm.refl _)
      · intro a' w' s hs hp hC hlo hhi he
        rw [if_neg (by decide)]
        clear hlo hhi
        try simp [Is, Region.binds] at he
        exact op_valS rfl (wanted_none rfl) (by first | (go_simp; done) | (go_simp; rfl) | (simp [execOp, Act.eval, go_sem, *]; done) | (simp [execOp, Act.eval, go_sem, *]; rfl)) rfl (Sm.refl _)
      · intro a' w' s hs hp hC hlo hhi he
        rw [if_pos (by decide)]; intro hsc; clear hsc
        have hs0 : s = 0 := Nat.le_antisymm (Nat.le_trans hhi (Nat.le_of_eq (by kernel_rfl))) (Nat.le_trans (Nat.le_of_eq (by kernel_rfl)) hlo)
        subst hs0
        clear hlo hhi
        try simp [Is, Region.binds] at he
        change w'.heap.size = N at hC; have hv : Value.pointer (some ⟨w'.heap.size, 0, none⟩) = .pointer (some ⟨N, 0, none⟩) := (by rw [hC]); refine op_valC (v := .pointer (some ⟨w'.heap.size, 0, none⟩)) rfl (wanted_none rfl) (by first | (go_simp; done) | (go_simp; rfl) | (go_simp; exact ⟨rfl, rfl⟩)) hv ?_ (But.pu (Below.alloc (Below.refl _ _) (Nat.le_refl _) _)); exact Row.newAt _ _ _ _ hC rfl
      · intro a' w' s hs hp hC hlo hhi he
        rw [if_pos (by decide)]; intro hsc; clear hsc
        have hs0 : s = 1 := Nat.le_antisymm (Nat.le_trans hhi (Nat.le_of_eq (by kernel_rfl))) (Nat.le_trans (Nat.le_of_eq (by kernel_rfl)) hlo)
        subst hs0
        clear hlo hhi
        try simp [Is, Region.binds] at he
        change Row w' N 9 [S []] at hC; obtain ⟨u9, hc⟩ : ∃ u, w'.cell? ⟨N, 0, none⟩ = some u := ⟨_, hC.cell 0 (by simp)⟩; have hf := hC.frozen 0 (by simp); have h6 := hC.set 0 (S sec); exact op_doneC rfl (wanted_none rfl) (by first | (go_simp; done) | (go_simp; rfl)) rfl (by simpa using h6) (But.set _ _ _)
      · intro a' w' s hs hp hC hlo hhi he
        rw [if_neg (by decide)]
        clear hlo hhi
        try simp [Is, Region.binds] at he
        exact op_valS rfl (wanted_none rfl) (by first | (go_simp; done) | (go_simp; rfl) | (simp [execOp, Act.eval, go_sem, *]; done) | (simp [execOp, Act.eval, go_sem, *]; rfl)) rfl (Sm.refl _)
    case hend =>
      intro a' w' hdef hsz hs hp hC hall
      obtain ⟨r0, r1, r2, r3, r4, r5, r6, r7, r8, r9, r10, r11, r12, r13, r14, -⟩ := hall
      have hA := agree_done (agree_step (agree_step (agree_step (agree_step (agree_step (agree_step (agree_step (agree_step (agree_step (agree_step (agree_step (agree_step (agree_step (agree_step (agree_init [20, 21, 22, 23, 24, 25, 26, 27, 28, 19, 29, 30, 10, 11] hsz hs (by kernel_rfl)) r0) r1) r2) r3) r4) r5) r6) r7) r8) r9) r10) r11) r12) r14)
      have ha := act_of hA hdef
      rw [ha]
      clear ha hA hs hsz hdef r0 r1 r2 r3 r4 r5 r6 r7 r8 r9 r10 r11 r12 r13 r14 
      (try simp only [List.setIfInBounds_toArray])
      (try dsimp only [List.set_cons_zero, List.set_cons_succ])
      (try simp only [Exit.then])
      change Row w' N 9 [S sec] at hC
      have hp05 : Pu w w' := But.below hp04 hp (by have := hp04.size; have := HN.out; omega) hp04.size
      have hh5 : HostAt w' hb ub nonce s := hp.row (xs := hostC ub nonce s) hh4 nhN
      have pw : PrW G w w' w.heap.size w2.heap.size N hb ub nonce s l m sec := ⟨hp.row hrp npN, hp.row hr4 (by have := hr4.lt; have := HN.out; omega), hC, hh5, HU.out.pu hp05, Nat.le_refl _, hp02.size, by have := hp04.size; have := HN.out; omega, hlt, hdom, hnG, Cg.ofPu hp05⟩
      clear hp hC hh5 hp05 hh4 hu4 hrp hr4 hp04 hp02 HLD HSE hgs npN nhN
      simp only [Option.isSome_some, if_true]
      go_wp2_with fail
      go_ret2
      exact ⟨rfl, pw.h, pw.u, pw.cg⟩
  · have hG' : ∀ w, Calls Tryz.prog 82 #[S b] w fun e w' => e = .returned (.tuple #[.agg #[S m], .bool true]) ∧ Pu w w' := by rw [hf] at hG; exact hG
    have HG := Lib.hid hG'
    have e9 : provR l s b now = ⟨[], 6, s, l⟩ := by unfold provR; rw [hf]; simp only; rw [hsv]
    rw [e9]
    have hkn : kn = false := by have := HSEC.out; rw [hsv] at this; simp at this; exact this.2
    have HKN := Lib.hid hkn
    clear hG hG' hf e9 h hu hsv hkn
    go_enter Tryz.func60, Tryz.ntmps60
    go_wp2_with (first
      | (go_at_call 82; refine (HG.out _).mono ?_; rintro e w2 ⟨rfl, hp2⟩)
      | (refine wpList_store_part rfl 100 (.tmp 8) (.tmp 17) rfl w2.heap.size 0 [S m] (by rfl) (by rfl) (Row.newAt w2 w2.heap.size _ _ rfl rfl) hi1 (by simp) (by simp [Value.oneCell']) ?_; intro w4 hr4 hch4))
    rw [splice_all (by rfl)] at hr4
    have hp02 : Pu w w2 := Pu.trans hpb hp2
    have hp04 : Pu w w4 := hch4.below (hp02.alloc (.cells #[.string ⟨#[]⟩] 100)) hp02.size
    have hs24 := hp02.size
    have hb24 : Pu w2 w4 := hch4.below ((Pu.refl w2).alloc (.cells #[.string ⟨#[]⟩] 100)) (Nat.le_refl _)
    have hrp := (hrb.pu hp2).pu hb24
    have hh4 := H.out.pu hp04
    have hu4 := HU.out.pu hp04
    have hgs : ∀ g, G g → g < w4.heap.size := fun g hg => Nat.lt_of_lt_of_le (hdom g hg) hp04.size
    obtain ⟨N, hN⟩ : ∃ N, N = w4.heap.size := ⟨_, rfl⟩
    have npN : w.heap.size ≠ N := by have := hrp.lt; omega
    have nhN : hb ≠ N := by have := hp04.size; omega
    have hld : ∀ w', But N w4 w' → w'.cell? ⟨w.heap.size, 0, none⟩ = some (.pointer (some ⟨hb, 0, none⟩)) ∧ w'.cell? ⟨hb, 0, none⟩ = some (.pointer (some ⟨ub, 0, none⟩)) ∧ w'.cell? ⟨hb, 4, none⟩ = some (S s.user) := fun w' hp => by
      have h1 : HostAt w' hb ub nonce s := hp.row (xs := hostC ub nonce s) hh4 nhN
      obtain ⟨c0, -, -, -, c4, -, -⟩ := h1.cells
      have h2 := (hp.row hrp npN).cell 0 (by simp)
      simp at h2
      exact ⟨h2, c0, c4⟩
    have hse : ∀ w', But N w4 w' → Calls Tryz.prog 83 #[.pointer (some ⟨ub, 0, none⟩), S s.user] w' fun e w'' => e = .returned (.tuple #[S sec, .bool kn]) ∧ w'' = w' := fun w' hp => by
      have := secretW (hu4.cg (H := fun g => g = N) ⟨hp.os, hp.tape, hp.output, hp.size, fun k hk hne => hp.block k hk hne⟩ (fun g hg hG => by have := hgs g hG; omega)) s.user hul
      rw [HSEC.out] at this
      exact this
    have HLD := Lib.hid hld
    have HSE := Lib.hid hse
    have HN := Lib.hid hN
    clear hld hse hch4 hs24 hb24 hN
    apply region_still (g := N) (chain := [12, 13]) (C := (fun q w' => match q with | 0 => w'.heap.size = N | 1 => Row w' N 9 [S []] | _ => Row w' N 9 [S sec])) (Φs := (Is _ :: Is _ :: Is _ :: Is _ :: Is _ :: Is _ :: Is _ :: Is _ :: Is _ :: Is _ :: Is _ :: Is _ :: Is (.pointer (some ⟨N, 0, none⟩)) :: Is _ :: Is _ :: [])) (hm := by kernel_rfl) (hE := by kernel_rfl) (hD := by kernel_rfl) (hup := by kernel_rfl) (hch := by kernel_rfl) (hsize := by kernel_rfl)
    case hC =>
      intro s a b h hp
      match s, h with | 0, h => show b.heap.size = N; rw [hp.heap]; exact h | 1, h => exact Row.pu h hp.pu | (_+2), h => exact Row.pu h hp.pu
    case hC0 =>
      exact HN.out.symm
    case hop =>
      refine ⟨?_, ?_, ?_, ?_, ?_, ?_, ?_, ?_, ?_, ?_, ?_, ?_, ?_, ?_, ?_, trivial⟩
      · intro a' w' s hs hp hC hlo hhi he
        rw [if_neg (by decide)]
        clear hlo hhi
        have e3 := hs 3 (by kernel_rfl)
        try simp [Is, Region.binds] at he
        obtain ⟨c1, c2, c3⟩ := HLD.out _ hp; exact op_valS rfl (wanted_none rfl) (by first | (go_simp; done) | (go_simp; rfl)) rfl (Sm.refl _)
      · intro a' w' s hs hp hC hlo hhi he
        rw [if_neg (by decide)]
        clear hlo hhi
        try simp [Is, Region.binds] at he
        exact op_valS rfl (wanted_none rfl) (by first | (go_simp; done) | (go_simp; rfl) | (simp [execOp, Act.eval, go_sem, *]; done) | (simp [execOp, Act.eval, go_sem, *]; rfl)) rfl (Sm.refl _)
      · intro a' w' s hs hp hC hlo hhi he
        rw [if_neg (by decide)]
        clear hlo hhi
        try simp [Is, Region.binds] at he
        exact op_valS rfl (wanted_none rfl) (by first | (go_simp; done) | (go_simp; rfl) | (simp [execOp, Act.eval, go_sem, *]; done) | (simp [execOp, Act.eval, go_sem, *]; rfl)) rfl (Sm.refl _)
      · intro a' w' s hs hp hC hlo hhi he
        rw [if_neg (by decide)]
        clear hlo hhi
        try simp [Is, Region.binds] at he
        obtain ⟨c1, c2, c3⟩ := HLD.out _ hp; exact op_valS rfl (wanted_none rfl) (by first | (go_simp; done) | (go_simp; rfl)) rfl (Sm.refl _)
      · intro a' w' s hs hp hC hlo hhi he
        rw [if_neg (by decide)]
        clear hlo hhi
        have e3 := hs 3 (by kernel_rfl)
        try simp [Is, Region.binds] at he
        obtain ⟨c1, c2, c3⟩ := HLD.out _ hp; exact op_valS rfl (wanted_none rfl) (by first | (go_simp; done) | (go_simp; rfl)) rfl (Sm.refl _)
      · intro a' w' s hs hp hC hlo hhi he
        rw [if_neg (by decide)]
        clear hlo hhi
        try simp [Is, Region.binds] at he
        exact op_valS rfl (wanted_none rfl) (by first | (go_simp; done) | (go_simp; rfl) | (simp [execOp, Act.eval, go_sem, *]; done) | (simp [execOp, Act.eval, go_sem, *]; rfl)) rfl (Sm.refl _)
      · intro a' w' s hs hp hC hlo hhi he
        rw [if_neg (by decide)]
        clear hlo hhi
        try simp [Is, Region.binds] at he
        exact op_valS rfl (wanted_none rfl) (by first | (go_simp; done) | (go_simp; rfl) | (simp [execOp, Act.eval, go_sem, *]; done) | (simp [execOp, Act.eval, go_sem, *]; rfl)) rfl (Sm.refl _)
      · intro a' w' s hs hp hC hlo hhi he
        rw [if_neg (by decide)]
        clear hlo hhi
        try simp [Is, Region.binds] at he
        obtain ⟨c1, c2, c3⟩ := HLD.out _ hp; exact op_valS rfl (wanted_none rfl) (by first | (go_simp; done) | (go_simp; rfl)) rfl (Sm.refl _)
      · intro a' w' s hs hp hC hlo hhi he
        rw [if_neg (by decide)]
        clear hlo hhi
        try simp [Is, Region.binds] at he
        exact op_callS (HSE.out _ hp) rfl (wanted_none rfl) (by first | (go_simp; done) | (go_simp; rfl)) rfl
      · intro a' w' s hs hp hC hlo hhi he
        rw [if_neg (by decide)]
        clear hlo hhi
        try simp [Is, Region.binds] at he
        exact op_valS rfl (wanted_none rfl) (by first | (go_simp; done) | (go_simp; rfl) | (simp [execOp, Act.eval, go_sem, *]; done) | (simp [execOp, Act.eval, go_sem, *]; rfl)) rfl (Sm.refl _)
      · intro a' w' s hs hp hC hlo hhi he
        rw [if_neg (by decide)]
        clear hlo hhi
        try simp [Is, Region.binds] at he
        exact op_valS rfl (wanted_none rfl) (by first | (go_simp; done) | (go_simp; rfl) | (simp [execOp, Act.eval, go_sem, *]; done) | (simp [execOp, Act.eval, go_sem, *]; rfl)) rfl (Sm.refl _)
      · intro a' w' s hs hp hC hlo hhi he
        rw [if_neg (by decide)]
        clear hlo hhi
        try simp [Is, Region.binds] at he
        exact op_valS rfl (wanted_none rfl) (by first | (go_simp; done) | (go_simp; rfl) | (simp [execOp, Act.eval, go_sem, *]; done) | (simp [execOp, Act.eval, go_sem, *]; rfl)) rfl (Sm.refl _)
      · intro a' w' s hs hp hC hlo hhi he
        rw [if_pos (by decide)]; intro hsc; clear hsc
        have hs0 : s = 0 := Nat.le_antisymm (Nat.le_trans hhi (Nat.le_of_eq (by kernel_rfl))) (Nat.le_trans (Nat.le_of_eq (by kernel_rfl)) hlo)
        subst hs0
        clear hlo hhi
        try simp [Is, Region.binds] at he
        change w'.heap.size = N at hC; have hv : Value.pointer (some ⟨w'.heap.size, 0, none⟩) = .pointer (some ⟨N, 0, none⟩) := (by rw [hC]); refine op_valC (v := .pointer (some ⟨w'.heap.size, 0, none⟩)) rfl (wanted_none rfl) (by first | (go_simp; done) | (go_simp; rfl) | (go_simp; exact ⟨rfl, rfl⟩)) hv ?_ (But.pu (Below.alloc (Below.refl _ _) (Nat.le_refl _) _)); exact Row.newAt _ _ _ _ hC rfl
      · intro a' w' s hs hp hC hlo hhi he
        rw [if_pos (by decide)]; intro hsc; clear hsc
        have hs0 : s = 1 := Nat.le_antisymm (Nat.le_trans hhi (Nat.le_of_eq (by kernel_rfl))) (Nat.le_trans (Nat.le_of_eq (by kernel_rfl)) hlo)
        subst hs0
        clear hlo hhi
        try simp [Is, Region.binds] at he
        change Row w' N 9 [S []] at hC; obtain ⟨u9, hc⟩ : ∃ u, w'.cell? ⟨N, 0, none⟩ = some u := ⟨_, hC.cell 0 (by simp)⟩; have hf := hC.frozen 0 (by simp); have h6 := hC.set 0 (S sec); exact op_doneC rfl (wanted_none rfl) (by first | (go_simp; done) | (go_simp; rfl)) rfl (by simpa using h6) (But.set _ _ _)
      · intro a' w' s hs hp hC hlo hhi he
        rw [if_neg (by decide)]
        clear hlo hhi
        try simp [Is, Region.binds] at he
        exact op_valS rfl (wanted_none rfl) (by first | (go_simp; done) | (go_simp; rfl) | (simp [execOp, Act.eval, go_sem, *]; done) | (simp [execOp, Act.eval, go_sem, *]; rfl)) rfl (Sm.refl _)
    case hend =>
      intro a' w' hdef hsz hs hp hC hall
      obtain ⟨r0, r1, r2, r3, r4, r5, r6, r7, r8, r9, r10, r11, r12, r13, r14, -⟩ := hall
      have hA := agree_done (agree_step (agree_step (agree_step (agree_step (agree_step (agree_step (agree_step (agree_step (agree_step (agree_step (agree_step (agree_step (agree_step (agree_step (agree_init [20, 21, 22, 23, 24, 25, 26, 27, 28, 19, 29, 30, 10, 11] hsz hs (by kernel_rfl)) r0) r1) r2) r3) r4) r5) r6) r7) r8) r9) r10) r11) r12) r14)
      have ha := act_of hA hdef
      rw [ha]
      clear ha hA hs hsz hdef r0 r1 r2 r3 r4 r5 r6 r7 r8 r9 r10 r11 r12 r13 r14 
      (try simp only [List.setIfInBounds_toArray])
      (try dsimp only [List.set_cons_zero, List.set_cons_succ])
      (try simp only [Exit.then])
      change Row w' N 9 [S sec] at hC
      have hp05 : Pu w w' := But.below hp04 hp (by have := hp04.size; have := HN.out; omega) hp04.size
      have hh5 : HostAt w' hb ub nonce s := hp.row (xs := hostC ub nonce s) hh4 nhN
      have pw : PrW G w w' w.heap.size w2.heap.size N hb ub nonce s l m sec := ⟨hp.row hrp npN, hp.row hr4 (by have := hr4.lt; have := HN.out; omega), hC, hh5, HU.out.pu hp05, Nat.le_refl _, hp02.size, by have := hp04.size; have := HN.out; omega, hlt, hdom, hnG, Cg.ofPu hp05⟩
      clear hp hC hh5 hp05 hh4 hu4 hrp hr4 hp04 hp02 HLD HSE hgs npN nhN
      simp only [Option.isSome_some, if_true]
      have hkn := HKN.out
      subst hkn
      go_wp2_with fail
      apply region_pu (Φs := (Is _ :: Is _ :: Is _ :: Is _ :: Is _ :: Is _ :: Is _ :: Is _ :: Is _ :: Is _ :: Is _ :: Is _ :: Is _ :: Is _ :: Is _ :: [])) (hm := by kernel_rfl) (hE := by kernel_rfl) (hD := by kernel_rfl) (hsize := by kernel_rfl)
      case hop =>
        refine ⟨?_, ?_, ?_, ?_, ?_, ?_, ?_, ?_, ?_, ?_, ?_, ?_, ?_, ?_, ?_, trivial⟩
        · intro a' w' hs hp he
          have e11 := hs 11 (by kernel_rfl)
          try simp [Is, Region.binds] at he
          exact op_val rfl (wanted_none rfl) (by first | (go_simp; done) | (go_simp; rfl) | (simp [execOp, Act.eval, go_sem, *]; done) | (simp [execOp, Act.eval, go_sem, *]; rfl)) rfl (Pu.refl _)
        · intro a' w' hs hp he
          try simp [Is, Region.binds] at he
          exact op_val rfl (wanted_none rfl) (by first | (go_simp; done) | (go_simp; rfl) | (simp [execOp, Act.eval, go_sem, *]; done) | (simp [execOp, Act.eval, go_sem, *]; rfl)) rfl (Pu.refl _)
        · intro a' w' hs hp he
          try simp [Is, Region.binds] at he
          exact op_val rfl (wanted_none rfl) (by first | (go_simp; done) | (go_simp; rfl) | (simp [execOp, Act.eval, go_sem, *]; done) | (simp [execOp, Act.eval, go_sem, *]; rfl)) rfl (Pu.refl _)
        · intro a' w' hs hp he
          have e3 := hs 3 (by kernel_rfl)
          try simp [Is, Region.binds] at he
          first | exact op_skip rfl ((wanted_some rfl rfl (by first | (simp [he]; done) | (simp [he]; rfl))).trans rfl) rfl | exact op_val rfl ((wanted_some rfl rfl (by first | (simp [he]; done) | (simp [he]; rfl))).trans rfl) (by first | (go_simp; done) | (go_simp; rfl) | (simp [execOp, Act.eval, go_sem, *]; done) | (simp [execOp, Act.eval, go_sem, *]; rfl)) rfl (Pu.refl _)
        · intro a' w' hs hp he
          try simp [Is, Region.binds] at he
          first | exact op_skip rfl ((wanted_some rfl rfl (by first | (simp [he]; done) | (simp [he]; rfl))).trans rfl) rfl | exact op_val rfl ((wanted_some rfl rfl (by first | (simp [he]; done) | (simp [he]; rfl))).trans rfl) (by first | (go_simp; done) | (go_simp; rfl) | (simp [execOp, Act.eval, go_sem, *]; done) | (simp [execOp, Act.eval, go_sem, *]; rfl)) rfl (Pu.refl _)
        · intro a' w' hs hp he
          try simp [Is, Region.binds] at he
          first | exact op_skip rfl ((wanted_some rfl rfl (by first | (simp [he]; done) | (simp [he]; rfl))).trans rfl) rfl | exact op_val rfl ((wanted_some rfl rfl (by first | (simp [he]; done) | (simp [he]; rfl))).trans rfl) (by first | (go_simp; done) | (go_simp; rfl) | (simp [execOp, Act.eval, go_sem, *]; done) | (simp [execOp, Act.eval, go_sem, *]; rfl)) rfl (Pu.refl _)
        · intro a' w' hs hp he
          try simp [Is, Region.binds] at he
          first | exact op_skip rfl ((wanted_some rfl rfl (by first | (simp [he]; done) | (simp [he]; rfl))).trans rfl) rfl | exact op_val rfl ((wanted_some rfl rfl (by first | (simp [he]; done) | (simp [he]; rfl))).trans rfl) (by first | (go_simp; done) | (go_simp; rfl) | (simp [execOp, Act.eval, go_sem, *]; done) | (simp [execOp, Act.eval, go_sem, *]; rfl)) rfl (Pu.refl _)
        · intro a' w' hs hp he
          have e3 := hs 3 (by kernel_rfl)
          try simp [Is, Region.binds] at he
          first | exact op_skip rfl ((wanted_some rfl rfl (by first | (simp [he]; done) | (simp [he]; rfl))).trans rfl) rfl | exact op_val rfl ((wanted_some rfl rfl (by first | (simp [he]; done) | (simp [he]; rfl))).trans rfl) (by first | (go_simp; done) | (go_simp; rfl) | (simp [execOp, Act.eval, go_sem, *]; done) | (simp [execOp, Act.eval, go_sem, *]; rfl)) rfl (Pu.refl _)
        · intro a' w' hs hp he
          try simp [Is, Region.binds] at he
          first | exact op_skip rfl ((wanted_some rfl rfl (by first | (simp [he]; done) | (simp [he]; rfl))).trans rfl) rfl | exact op_val rfl ((wanted_some rfl rfl (by first | (simp [he]; done) | (simp [he]; rfl))).trans rfl) (by first | (go_simp; done) | (go_simp; rfl) | (simp [execOp, Act.eval, go_sem, *]; done) | (simp [execOp, Act.eval, go_sem, *]; rfl)) rfl (Pu.refl _)
        · intro a' w' hs hp he
          try simp [Is, Region.binds] at he
          first | exact op_skip rfl ((wanted_some rfl rfl (by first | (simp [he]; done) | (simp [he]; rfl))).trans rfl) rfl | exact op_val rfl ((wanted_some rfl rfl (by first | (simp [he]; done) | (simp [he]; rfl))).trans rfl) (by first | (go_simp; done) | (go_simp; rfl) | (simp [execOp, Act.eval, go_sem, *]; done) | (simp [execOp, Act.eval, go_sem, *]; rfl)) rfl (Pu.refl _)
        · intro a' w' hs hp he
          try simp [Is, Region.binds] at he
          first | exact op_skip rfl ((wanted_some rfl rfl (by first | (simp [he]; done) | (simp [he]; rfl))).trans rfl) rfl | exact op_val rfl ((wanted_some rfl rfl (by first | (simp [he]; done) | (simp [he]; rfl))).trans rfl) (by first | (go_simp; done) | (go_simp; rfl) | (simp [execOp, Act.eval, go_sem, *]; done) | (simp [execOp, Act.eval, go_sem, *]; rfl)) rfl (Pu.refl _)
        · intro a' w' hs hp he
          have e2 := hs 2 (by kernel_rfl)
          try simp [Is, Region.binds] at he
          first | exact op_skip rfl ((wanted_some rfl rfl (by first | (simp [he]; done) | (simp [he]; rfl))).trans rfl) rfl | exact op_val rfl ((wanted_some rfl rfl (by first | (simp [he]; done) | (simp [he]; rfl))).trans rfl) (by first | (go_simp; done) | (go_simp; rfl) | (simp [execOp, Act.eval, go_sem, *]; done) | (simp [execOp, Act.eval, go_sem, *]; rfl)) rfl (Pu.refl _)
        · intro a' w' hs hp he
          try simp [Is, Region.binds] at he
          first | exact op_skip rfl ((wanted_some rfl rfl (by first | (simp [he]; done) | (simp [he]; rfl))).trans rfl) rfl | exact op_val rfl ((wanted_some rfl rfl (by first | (simp [he]; done) | (simp [he]; rfl))).trans rfl) (by first | (go_simp; done) | (go_simp; rfl) | (simp [execOp, Act.eval, go_sem, *]; done) | (simp [execOp, Act.eval, go_sem, *]; rfl)) rfl (Pu.refl _)
        · intro a' w' hs hp he
          try simp [Is, Region.binds] at he
          exact op_val rfl (wanted_none rfl) (by first | (go_simp; done) | (go_simp; rfl) | (simp [execOp, Act.eval, go_sem, *]; done) | (simp [execOp, Act.eval, go_sem, *]; rfl)) rfl (Pu.refl _)
        · intro a' w' hs hp he
          try simp [Is, Region.binds] at he
          exact op_val rfl (wanted_none rfl) (by first | (go_simp; done) | (go_simp; rfl) | (simp [execOp, Act.eval, go_sem, *]; done) | (simp [execOp, Act.eval, go_sem, *]; rfl)) rfl (Pu.refl _)
      case hend =>
        intro a' w' hdef hsz hs hp hall
        obtain ⟨r0, r1, r2, r3, r4, r5, r6, r7, r8, r9, r10, r11, r12, r13, r14, -⟩ := hall
        have hA := agree_done (agree_step (agree_step (agree_step (agree_step (agree_step (agree_step (agree_step (agree_step (agree_step (agree_step (agree_step (agree_step (agree_step (agree_step (agree_step (agree_init [35, 36, 37, 38, 39, 40, 41, 42, 43, 44, 45, 46, 47, 48, 34] hsz hs (by kernel_rfl)) r0) r1) r2) r3) r4) r5) r6) r7) r8) r9) r10) r11) r12) r13) r14)
        have ha := act_of hA hdef
        rw [ha]
        clear ha hA hs hsz hdef r0 r1 r2 r3 r4 r5 r6 r7 r8 r9 r10 r11 r12 r13 r14 
        (try simp only [List.setIfInBounds_toArray])
        (try dsimp only [List.set_cons_zero, List.set_cons_succ])
        (try simp only [Exit.then])
        simp only [Option.isSome_some, if_true]
        go_wp2_with fail
        go_ret2
        exact ⟨rfl, (pw.pu hp).h, (pw.pu hp).u, (pw.pu hp).cg⟩
  · have hG' : ∀ w, Calls Tryz.prog 82 #[S b] w fun e w' => e = .returned (.tuple #[.agg #[S m], .bool true]) ∧ Pu w w' := by rw [hf] at hG; exact hG
    have HG := Lib.hid hG'
    have e9 : provR l s b now = ⟨[], 6, s, l⟩ := by unfold provR; rw [hf]; simp only; rw [hsv]; simp only; rw [if_pos hlk]
    rw [e9]
    have hkn : kn = true := by have := HSEC.out; rw [hsv] at this; simp at this; exact this.2
    have HKN := Lib.hid hkn
    have HLK := Lib.hid hlk
    clear hG hG' hf e9 h hu hsv hlk hkn
    go_enter Tryz.func60, Tryz.ntmps60
    go_wp2_with (first
      | (go_at_call 82; refine (HG.out _).mono ?_; rintro e w2 ⟨rfl, hp2⟩)
      | (refine wpList_store_part rfl 100 (.tmp 8) (.tmp 17) rfl w2.heap.size 0 [S m] (by rfl) (by rfl) (Row.newAt w2 w2.heap.size _ _ rfl rfl) hi1 (by simp) (by simp [Value.oneCell']) ?_; intro w4 hr4 hch4))
    rw [splice_all (by rfl)] at hr4
    have hp02 : Pu w w2 := Pu.trans hpb hp2
    have hp04 : Pu w w4 := hch4.below (hp02.alloc (.cells #[.string ⟨#[]⟩] 100)) hp02.size
    have hs24 := hp02.size
    have hb24 : Pu w2 w4 := hch4.below ((Pu.refl w2).alloc (.cells #[.string ⟨#[]⟩] 100)) (Nat.le_refl _)
    have hrp := (hrb.pu hp2).pu hb24
    have hh4 := H.out.pu hp04
    have hu4 := HU.out.pu hp04
    have hgs : ∀ g, G g → g < w4.heap.size := fun g hg => Nat.lt_of_lt_of_le (hdom g hg) hp04.size
    obtain ⟨N, hN⟩ : ∃ N, N = w4.heap.size := ⟨_, rfl⟩
    have npN : w.heap.size ≠ N := by have := hrp.lt; omega
    have nhN : hb ≠ N := by have := hp04.size; omega
    have hld : ∀ w', But N w4 w' → w'.cell? ⟨w.heap.size, 0, none⟩ = some (.pointer (some ⟨hb, 0, none⟩)) ∧ w'.cell? ⟨hb, 0, none⟩ = some (.pointer (some ⟨ub, 0, none⟩)) ∧ w'.cell? ⟨hb, 4, none⟩ = some (S s.user) := fun w' hp => by
      have h1 : HostAt w' hb ub nonce s := hp.row (xs := hostC ub nonce s) hh4 nhN
      obtain ⟨c0, -, -, -, c4, -, -⟩ := h1.cells
      have h2 := (hp.row hrp npN).cell 0 (by simp)
      simp at h2
      exact ⟨h2, c0, c4⟩
    have hse : ∀ w', But N w4 w' → Calls Tryz.prog 83 #[.pointer (some ⟨ub, 0, none⟩), S s.user] w' fun e w'' => e = .returned (.tuple #[S sec, .bool kn]) ∧ w'' = w' := fun w' hp => by
      have := secretW (hu4.cg (H := fun g => g = N) ⟨hp.os, hp.tape, hp.output, hp.size, fun k hk hne => hp.block k hk hne⟩ (fun g hg hG => by have := hgs g hG; omega)) s.user hul
      rw [HSEC.out] at this
      exact this
    have HLD := Lib.hid hld
    have HSE := Lib.hid hse
    have HN := Lib.hid hN
    clear hld hse hch4 hs24 hb24 hN
    apply region_still (g := N) (chain := [12, 13]) (C := (fun q w' => match q with | 0 => w'.heap.size = N | 1 => Row w' N 9 [S []] | _ => Row w' N 9 [S sec])) (Φs := (Is _ :: Is _ :: Is _ :: Is _ :: Is _ :: Is _ :: Is _ :: Is _ :: Is _ :: Is _ :: Is _ :: Is _ :: Is (.pointer (some ⟨N, 0, none⟩)) :: Is _ :: Is _ :: [])) (hm := by kernel_rfl) (hE := by kernel_rfl) (hD := by kernel_rfl) (hup := by kernel_rfl) (hch := by kernel_rfl) (hsize := by kernel_rfl)
    case hC =>
      intro s a b h hp
      match s, h with | 0, h => show b.heap.size = N; rw [hp.heap]; exact h | 1, h => exact Row.pu h hp.pu | (_+2), h => exact Row.pu h hp.pu
    case hC0 =>
      exact HN.out.symm
    case hop =>
      refine ⟨?_, ?_, ?_, ?_, ?_, ?_, ?_, ?_, ?_, ?_, ?_, ?_, ?_, ?_, ?_, trivial⟩
      · intro a' w' s hs hp hC hlo hhi he
        rw [if_neg (by decide)]
        clear hlo hhi
        have e3 := hs 3 (by kernel_rfl)
        try simp [Is, Region.binds] at he
        obtain ⟨c1, c2, c3⟩ := HLD.out _ hp; exact op_valS rfl (wanted_none rfl) (by first | (go_simp; done) | (go_simp; rfl)) rfl (Sm.refl _)
      · intro a' w' s hs hp hC hlo hhi he
        rw [if_neg (by decide)]
        clear hlo hhi
        try simp [Is, Region.binds] at he
        exact op_valS rfl (wanted_none rfl) (by first | (go_simp; done) | (go_simp; rfl) | (simp [execOp, Act.eval, go_sem, *]; done) | (simp [execOp, Act.eval, go_sem, *]; rfl)) rfl (Sm.refl _)
      · intro a' w' s hs hp hC hlo hhi he
        rw [if_neg (by decide)]
        clear hlo hhi
        try simp [Is, Region.binds] at he
        exact op_valS rfl (wanted_none rfl) (by first | (go_simp; done) | (go_simp; rfl) | (simp [execOp, Act.eval, go_sem, *]; done) | (simp [execOp, Act.eval, go_sem, *]; rfl)) rfl (Sm.refl _)
      · intro a' w' s hs hp hC hlo hhi he
        rw [if_neg (by decide)]
        clear hlo hhi
        try simp [Is, Region.binds] at he
        obtain ⟨c1, c2, c3⟩ := HLD.out _ hp; exact op_valS rfl (wanted_none rfl) (by first | (go_simp; done) | (go_simp; rfl)) rfl (Sm.refl _)
      · intro a' w' s hs hp hC hlo hhi he
        rw [if_neg (by decide)]
        clear hlo hhi
        have e3 := hs 3 (by kernel_rfl)
        try simp [Is, Region.binds] at he
        obtain ⟨c1, c2, c3⟩ := HLD.out _ hp; exact op_valS rfl (wanted_none rfl) (by first | (go_simp; done) | (go_simp; rfl)) rfl (Sm.refl _)
      · intro a' w' s hs hp hC hlo hhi he
        rw [if_neg (by decide)]
        clear hlo hhi
        try simp [Is, Region.binds] at he
        exact op_valS rfl (wanted_none rfl) (by first | (go_simp; done) | (go_simp; rfl) | (simp [execOp, Act.eval, go_sem, *]; done) | (simp [execOp, Act.eval, go_sem, *]; rfl)) rfl (Sm.refl _)
      · intro a' w' s hs hp hC hlo hhi he
        rw [if_neg (by decide)]
        clear hlo hhi
        try simp [Is, Region.binds] at he
        exact op_valS rfl (wanted_none rfl) (by first | (go_simp; done) | (go_simp; rfl) | (simp [execOp, Act.eval, go_sem, *]; done) | (simp [execOp, Act.eval, go_sem, *]; rfl)) rfl (Sm.refl _)
      · intro a' w' s hs hp hC hlo hhi he
        rw [if_neg (by decide)]
        clear hlo hhi
        try simp [Is, Region.binds] at he
        obtain ⟨c1, c2, c3⟩ := HLD.out _ hp; exact op_valS rfl (wanted_none rfl) (by first | (go_simp; done) | (go_simp; rfl)) rfl (Sm.refl _)
      · intro a' w' s hs hp hC hlo hhi he
        rw [if_neg (by decide)]
        clear hlo hhi
        try simp [Is, Region.binds] at he
        exact op_callS (HSE.out _ hp) rfl (wanted_none rfl) (by first | (go_simp; done) | (go_simp; rfl)) rfl
      · intro a' w' s hs hp hC hlo hhi he
        rw [if_neg (by decide)]
        clear hlo hhi
        try simp [Is, Region.binds] at he
        exact op_valS rfl (wanted_none rfl) (by first | (go_simp; done) | (go_simp; rfl) | (simp [execOp, Act.eval, go_sem, *]; done) | (simp [execOp, Act.eval, go_sem, *]; rfl)) rfl (Sm.refl _)
      · intro a' w' s hs hp hC hlo hhi he
        rw [if_neg (by decide)]
        clear hlo hhi
        try simp [Is, Region.binds] at he
        exact op_valS rfl (wanted_none rfl) (by first | (go_simp; done) | (go_simp; rfl) | (simp [execOp, Act.eval, go_sem, *]; done) | (simp [execOp, Act.eval, go_sem, *]; rfl)) rfl (Sm.refl _)
      · intro a' w' s hs hp hC hlo hhi he
        rw [if_neg (by decide)]
        clear hlo hhi
        try simp [Is, Region.binds] at he
        exact op_valS rfl (wanted_none rfl) (by first | (go_simp; done) | (go_simp; rfl) | (simp [execOp, Act.eval, go_sem, *]; done) | (simp [execOp, Act.eval, go_sem, *]; rfl)) rfl (Sm.refl _)
      · intro a' w' s hs hp hC hlo hhi he
        rw [if_pos (by decide)]; intro hsc; clear hsc
        have hs0 : s = 0 := Nat.le_antisymm (Nat.le_trans hhi (Nat.le_of_eq (by kernel_rfl))) (Nat.le_trans (Nat.le_of_eq (by kernel_rfl)) hlo)
        subst hs0
        clear hlo hhi
        try simp [Is, Region.binds] at he
        change w'.heap.size = N at hC; have hv : Value.pointer (some ⟨w'.heap.size, 0, none⟩) = .pointer (some ⟨N, 0, none⟩) := (by rw [hC]); refine op_valC (v := .pointer (some ⟨w'.heap.size, 0, none⟩)) rfl (wanted_none rfl) (by first | (go_simp; done) | (go_simp; rfl) | (go_simp; exact ⟨rfl, rfl⟩)) hv ?_ (But.pu (Below.alloc (Below.refl _ _) (Nat.le_refl _) _)); exact Row.newAt _ _ _ _ hC rfl
      · intro a' w' s hs hp hC hlo hhi he
        rw [if_pos (by decide)]; intro hsc; clear hsc
        have hs0 : s = 1 := Nat.le_antisymm (Nat.le_trans hhi (Nat.le_of_eq (by kernel_rfl))) (Nat.le_trans (Nat.le_of_eq (by kernel_rfl)) hlo)
        subst hs0
        clear hlo hhi
        try simp [Is, Region.binds] at he
        change Row w' N 9 [S []] at hC; obtain ⟨u9, hc⟩ : ∃ u, w'.cell? ⟨N, 0, none⟩ = some u := ⟨_, hC.cell 0 (by simp)⟩; have hf := hC.frozen 0 (by simp); have h6 := hC.set 0 (S sec); exact op_doneC rfl (wanted_none rfl) (by first | (go_simp; done) | (go_simp; rfl)) rfl (by simpa using h6) (But.set _ _ _)
      · intro a' w' s hs hp hC hlo hhi he
        rw [if_neg (by decide)]
        clear hlo hhi
        try simp [Is, Region.binds] at he
        exact op_valS rfl (wanted_none rfl) (by first | (go_simp; done) | (go_simp; rfl) | (simp [execOp, Act.eval, go_sem, *]; done) | (simp [execOp, Act.eval, go_sem, *]; rfl)) rfl (Sm.refl _)
    case hend =>
      intro a' w' hdef hsz hs hp hC hall
      obtain ⟨r0, r1, r2, r3, r4, r5, r6, r7, r8, r9, r10, r11, r12, r13, r14, -⟩ := hall
      have hA := agree_done (agree_step (agree_step (agree_step (agree_step (agree_step (agree_step (agree_step (agree_step (agree_step (agree_step (agree_step (agree_step (agree_step (agree_step (agree_init [20, 21, 22, 23, 24, 25, 26, 27, 28, 19, 29, 30, 10, 11] hsz hs (by kernel_rfl)) r0) r1) r2) r3) r4) r5) r6) r7) r8) r9) r10) r11) r12) r14)
      have ha := act_of hA hdef
      rw [ha]
      clear ha hA hs hsz hdef r0 r1 r2 r3 r4 r5 r6 r7 r8 r9 r10 r11 r12 r13 r14 
      (try simp only [List.setIfInBounds_toArray])
      (try dsimp only [List.set_cons_zero, List.set_cons_succ])
      (try simp only [Exit.then])
      change Row w' N 9 [S sec] at hC
      have hp05 : Pu w w' := But.below hp04 hp (by have := hp04.size; have := HN.out; omega) hp04.size
      have hh5 : HostAt w' hb ub nonce s := hp.row (xs := hostC ub nonce s) hh4 nhN
      have pw : PrW G w w' w.heap.size w2.heap.size N hb ub nonce s l m sec := ⟨hp.row hrp npN, hp.row hr4 (by have := hr4.lt; have := HN.out; omega), hC, hh5, HU.out.pu hp05, Nat.le_refl _, hp02.size, by have := hp04.size; have := HN.out; omega, hlt, hdom, hnG, Cg.ofPu hp05⟩
      clear hp hC hh5 hp05 hh4 hu4 hrp hr4 hp04 hp02 HLD HSE hgs npN nhN
      simp only [Option.isSome_some, if_true]
      have hkn := HKN.out
      subst hkn
      go_wp2_with fail
      have hcl := fun w2 (hp : Pu w' w2) => (pw.pu hp).cells
      have hlo := fun w2 (hp : Pu w' w2) => lockedW ((pw.pu hp).u) s.user hul now
      rw [HLK.out] at hlo
      have HCL := Lib.hid hcl
      have HLO := Lib.hid hlo
      clear hcl hlo
      apply region_pu (Φs := (Is _ :: Is _ :: Is _ :: Is _ :: Is _ :: Is _ :: Is _ :: Is _ :: Is _ :: Is _ :: Is _ :: Is _ :: Is _ :: Is _ :: Is _ :: [])) (hm := by kernel_rfl) (hE := by kernel_rfl) (hD := by kernel_rfl) (hsize := by kernel_rfl)
      case hop =>
        refine ⟨?_, ?_, ?_, ?_, ?_, ?_, ?_, ?_, ?_, ?_, ?_, ?_, ?_, ?_, ?_, trivial⟩
        · intro a' w' hs hp he
          have e11 := hs 11 (by kernel_rfl)
          try simp [Is, Region.binds] at he
          exact op_val rfl (wanted_none rfl) (by first | (go_simp; done) | (go_simp; rfl) | (simp [execOp, Act.eval, go_sem, *]; done) | (simp [execOp, Act.eval, go_sem, *]; rfl)) rfl (Pu.refl _)
        · intro a' w' hs hp he
          try simp [Is, Region.binds] at he
          exact op_val rfl (wanted_none rfl) (by first | (go_simp; done) | (go_simp; rfl) | (simp [execOp, Act.eval, go_sem, *]; done) | (simp [execOp, Act.eval, go_sem, *]; rfl)) rfl (Pu.refl _)
        · intro a' w' hs hp he
          try simp [Is, Region.binds] at he
          exact op_val rfl (wanted_none rfl) (by first | (go_simp; done) | (go_simp; rfl) | (simp [execOp, Act.eval, go_sem, *]; done) | (simp [execOp, Act.eval, go_sem, *]; rfl)) rfl (Pu.refl _)
        · intro a' w' hs hp he
          have e3 := hs 3 (by kernel_rfl)
          try simp [Is, Region.binds] at he
          obtain ⟨c1, c2, c3, c4, c5, c6⟩ := HCL.out _ hp; exact op_val rfl ((wanted_some rfl rfl (by first | (simp [he]; done) | (simp [he]; rfl))).trans rfl) (by first | (go_simp; done) | (go_simp; rfl)) rfl (Pu.refl _)
        · intro a' w' hs hp he
          try simp [Is, Region.binds] at he
          first | exact op_skip rfl ((wanted_some rfl rfl (by first | (simp [he]; done) | (simp [he]; rfl))).trans rfl) rfl | exact op_val rfl ((wanted_some rfl rfl (by first | (simp [he]; done) | (simp [he]; rfl))).trans rfl) (by first | (go_simp; done) | (go_simp; rfl) | (simp [execOp, Act.eval, go_sem, *]; done) | (simp [execOp, Act.eval, go_sem, *]; rfl)) rfl (Pu.refl _)
        · intro a' w' hs hp he
          try simp [Is, Region.binds] at he
          first | exact op_skip rfl ((wanted_some rfl rfl (by first | (simp [he]; done) | (simp [he]; rfl))).trans rfl) rfl | exact op_val rfl ((wanted_some rfl rfl (by first | (simp [he]; done) | (simp [he]; rfl))).trans rfl) (by first | (go_simp; done) | (go_simp; rfl) | (simp [execOp, Act.eval, go_sem, *]; done) | (simp [execOp, Act.eval, go_sem, *]; rfl)) rfl (Pu.refl _)
        · intro a' w' hs hp he
          try simp [Is, Region.binds] at he
          obtain ⟨c1, c2, c3, c4, c5, c6⟩ := HCL.out _ hp; exact op_val rfl ((wanted_some rfl rfl (by first | (simp [he]; done) | (simp [he]; rfl))).trans rfl) (by first | (go_simp; done) | (go_simp; rfl)) rfl (Pu.refl _)
        · intro a' w' hs hp he
          have e3 := hs 3 (by kernel_rfl)
          try simp [Is, Region.binds] at he
          obtain ⟨c1, c2, c3, c4, c5, c6⟩ := HCL.out _ hp; exact op_val rfl ((wanted_some rfl rfl (by first | (simp [he]; done) | (simp [he]; rfl))).trans rfl) (by first | (go_simp; done) | (go_simp; rfl)) rfl (Pu.refl _)
        · intro a' w' hs hp he
          try simp [Is, Region.binds] at he
          first | exact op_skip rfl ((wanted_some rfl rfl (by first | (simp [he]; done) | (simp [he]; rfl))).trans rfl) rfl | exact op_val rfl ((wanted_some rfl rfl (by first | (simp [he]; done) | (simp [he]; rfl))).trans rfl) (by first | (go_simp; done) | (go_simp; rfl) | (simp [execOp, Act.eval, go_sem, *]; done) | (simp [execOp, Act.eval, go_sem, *]; rfl)) rfl (Pu.refl _)
        · intro a' w' hs hp he
          try simp [Is, Region.binds] at he
          first | exact op_skip rfl ((wanted_some rfl rfl (by first | (simp [he]; done) | (simp [he]; rfl))).trans rfl) rfl | exact op_val rfl ((wanted_some rfl rfl (by first | (simp [he]; done) | (simp [he]; rfl))).trans rfl) (by first | (go_simp; done) | (go_simp; rfl) | (simp [execOp, Act.eval, go_sem, *]; done) | (simp [execOp, Act.eval, go_sem, *]; rfl)) rfl (Pu.refl _)
        · intro a' w' hs hp he
          try simp [Is, Region.binds] at he
          obtain ⟨c1, c2, c3, c4, c5, c6⟩ := HCL.out _ hp; exact op_val rfl ((wanted_some rfl rfl (by first | (simp [he]; done) | (simp [he]; rfl))).trans rfl) (by first | (go_simp; done) | (go_simp; rfl)) rfl (Pu.refl _)
        · intro a' w' hs hp he
          have e2 := hs 2 (by kernel_rfl)
          try simp [Is, Region.binds] at he
          first | exact op_skip rfl ((wanted_some rfl rfl (by first | (simp [he]; done) | (simp [he]; rfl))).trans rfl) rfl | exact op_val rfl ((wanted_some rfl rfl (by first | (simp [he]; done) | (simp [he]; rfl))).trans rfl) (by first | (go_simp; done) | (go_simp; rfl) | (simp [execOp, Act.eval, go_sem, *]; done) | (simp [execOp, Act.eval, go_sem, *]; rfl)) rfl (Pu.refl _)
        · intro a' w' hs hp he
          try simp [Is, Region.binds] at he
          exact op_callP ((HLO.out _ hp).mono (by rintro e w2 ⟨rfl, rfl⟩; exact ⟨rfl, Pu.refl _⟩)) rfl ((wanted_some rfl rfl (by first | (simp [he]; done) | (simp [he]; rfl))).trans rfl) (by first | (go_simp; done) | (go_simp; rfl)) (fun _ => rfl)
        · intro a' w' hs hp he
          try simp [Is, Region.binds] at he
          exact op_val rfl (wanted_none rfl) (by first | (go_simp; done) | (go_simp; rfl) | (simp [execOp, Act.eval, go_sem, *]; done) | (simp [execOp, Act.eval, go_sem, *]; rfl)) rfl (Pu.refl _)
        · intro a' w' hs hp he
          try simp [Is, Region.binds] at he
          exact op_val rfl (wanted_none rfl) (by first | (go_simp; done) | (go_simp; rfl) | (simp [execOp, Act.eval, go_sem, *]; done) | (simp [execOp, Act.eval, go_sem, *]; rfl)) rfl (Pu.refl _)
      case hend =>
        intro a' w' hdef hsz hs hp hall
        obtain ⟨r0, r1, r2, r3, r4, r5, r6, r7, r8, r9, r10, r11, r12, r13, r14, -⟩ := hall
        have hA := agree_done (agree_step (agree_step (agree_step (agree_step (agree_step (agree_step (agree_step (agree_step (agree_step (agree_step (agree_step (agree_step (agree_step (agree_step (agree_step (agree_init [35, 36, 37, 38, 39, 40, 41, 42, 43, 44, 45, 46, 47, 48, 34] hsz hs (by kernel_rfl)) r0) r1) r2) r3) r4) r5) r6) r7) r8) r9) r10) r11) r12) r13) r14)
        have ha := act_of hA hdef
        rw [ha]
        clear ha hA hs hsz hdef r0 r1 r2 r3 r4 r5 r6 r7 r8 r9 r10 r11 r12 r13 r14 
        (try simp only [List.setIfInBounds_toArray])
        (try dsimp only [List.set_cons_zero, List.set_cons_succ])
        (try simp only [Exit.then])
        replace pw := pw.pu hp
        clear hp HCL HLO
        rename World => w5
        simp only [Option.isSome_some, if_true]
        go_wp2_with fail
        go_ret2
        exact ⟨rfl, pw.h, pw.u, pw.cg⟩
  · have hG' : ∀ w, Calls Tryz.prog 82 #[S b] w fun e w' => e = .returned (.tuple #[.agg #[S m], .bool true]) ∧ Pu w w' := by rw [hf] at hG; exact hG
    have HG := Lib.hid hG'
    have hm32 := (fixR_some hf).2.1
    have hkn : kn = true := by have := HSEC.out; rw [hsv] at this; simp at this; exact this.2
    have hse : sec = sc := by have := HSEC.out; rw [hsv] at this; simp [optV] at this; first | exact this.1.symm | exact bs_inj this.1.symm | exact bs_inj this.1
    subst hse
    have hsl := secV_len hl hsv
    have hPr := fun w => proofW1 sec s.papers (by omega) (by omega) w
    have hSa := fun w => same m (proofL sec s.papers) (by omega) (by rw [show (proofL sec s.papers).length = 32 from macL_length _ _]; omega) w
    have e9 : provR l s b now = ⟨4 :: finishL sec s.papers, 0, { s with done := true, up := upL sec s.papers, down := downL sec s.papers }, modN l s.user goodS⟩ := by unfold provR; rw [hf]; simp only; rw [hsv]; simp only; rw [if_neg (by rw [hlk]; simp), if_pos hme]
    rw [e9]
    have hFi := fun w => finishW1 sec s.papers (by omega) (by omega) w
    have hPu := fun w => putFinish (finishL sec s.papers) (by exact macL_length _ _) w
    obtain ⟨fi, hfie⟩ : ∃ x, x = finishL sec s.papers := ⟨_, rfl⟩
    rw [← hfie] at hFi hPu ⊢
    obtain ⟨s9, hs9⟩ : ∃ x : HSt, x = { s with done := true, up := upL sec s.papers, down := downL sec s.papers } := ⟨_, rfl⟩
    have hs9d : s9.done = true := by rw [hs9]
    have hs9p : s9.papers = s.papers := by rw [hs9]
    rw [← hs9]
    rw [show decide (m = proofL sec s.papers) = true by simp [hme]] at hSa
    obtain ⟨pr, hpr⟩ : ∃ x, x = proofL sec s.papers := ⟨_, rfl⟩
    rw [← hpr] at hPr hSa
    have HPR := Lib.hid hPr
    have HSA := Lib.hid hSa
    have HFI := Lib.hid hFi
    have HPU := Lib.hid hPu
    have HS9 := Lib.hid hs9
    have HS9D := Lib.hid hs9d
    have HS9P := Lib.hid hs9p
    have HKN := Lib.hid hkn
    have HLK := Lib.hid hlk
    have HD0 := Lib.hid hd
    clear hG hG' hf e9 h hu hsv hlk hkn hPr hSa hpr hme hFi hPu hfie hs9 hs9d hs9p hd
    go_enter Tryz.func60, Tryz.ntmps60
    go_wp2_with (first
      | (go_at_call 82; refine (HG.out _).mono ?_; rintro e w2 ⟨rfl, hp2⟩)
      | (refine wpList_store_part rfl 100 (.tmp 8) (.tmp 17) rfl w2.heap.size 0 [S m] (by rfl) (by rfl) (Row.newAt w2 w2.heap.size _ _ rfl rfl) hi1 (by simp) (by simp [Value.oneCell']) ?_; intro w4 hr4 hch4))
    rw [splice_all (by rfl)] at hr4
    have hp02 : Pu w w2 := Pu.trans hpb hp2
    have hp04 : Pu w w4 := hch4.below (hp02.alloc (.cells #[.string ⟨#[]⟩] 100)) hp02.size
    have hs24 := hp02.size
    have hb24 : Pu w2 w4 := hch4.below ((Pu.refl w2).alloc (.cells #[.string ⟨#[]⟩] 100)) (Nat.le_refl _)
    have hrp := (hrb.pu hp2).pu hb24
    have hh4 := H.out.pu hp04
    have hu4 := HU.out.pu hp04
    have hgs : ∀ g, G g → g < w4.heap.size := fun g hg => Nat.lt_of_lt_of_le (hdom g hg) hp04.size
    obtain ⟨N, hN⟩ : ∃ N, N = w4.heap.size := ⟨_, rfl⟩
    have npN : w.heap.size ≠ N := by have := hrp.lt; omega
    have nhN : hb ≠ N := by have := hp04.size; omega
    have hld : ∀ w', But N w4 w' → w'.cell? ⟨w.heap.size, 0, none⟩ = some (.pointer (some ⟨hb, 0, none⟩)) ∧ w'.cell? ⟨hb, 0, none⟩ = some (.pointer (some ⟨ub, 0, none⟩)) ∧ w'.cell? ⟨hb, 4, none⟩ = some (S s.user) := fun w' hp => by
      have h1 : HostAt w' hb ub nonce s := hp.row (xs := hostC ub nonce s) hh4 nhN
      obtain ⟨c0, -, -, -, c4, -, -⟩ := h1.cells
      have h2 := (hp.row hrp npN).cell 0 (by simp)
      simp at h2
      exact ⟨h2, c0, c4⟩
    have hse : ∀ w', But N w4 w' → Calls Tryz.prog 83 #[.pointer (some ⟨ub, 0, none⟩), S s.user] w' fun e w'' => e = .returned (.tuple #[S sec, .bool kn]) ∧ w'' = w' := fun w' hp => by
      have := secretW (hu4.cg (H := fun g => g = N) ⟨hp.os, hp.tape, hp.output, hp.size, fun k hk hne => hp.block k hk hne⟩ (fun g hg hG => by have := hgs g hG; omega)) s.user hul
      rw [HSEC.out] at this
      exact this
    have HLD := Lib.hid hld
    have HSE := Lib.hid hse
    have HN := Lib.hid hN
    clear hld hse hch4 hs24 hb24 hN
    apply region_still (g := N) (chain := [12, 13]) (C := (fun q w' => match q with | 0 => w'.heap.size = N | 1 => Row w' N 9 [S []] | _ => Row w' N 9 [S sec])) (Φs := (Is _ :: Is _ :: Is _ :: Is _ :: Is _ :: Is _ :: Is _ :: Is _ :: Is _ :: Is _ :: Is _ :: Is _ :: Is (.pointer (some ⟨N, 0, none⟩)) :: Is _ :: Is _ :: [])) (hm := by kernel_rfl) (hE := by kernel_rfl) (hD := by kernel_rfl) (hup := by kernel_rfl) (hch := by kernel_rfl) (hsize := by kernel_rfl)
    case hC =>
      intro s a b h hp
      match s, h with | 0, h => show b.heap.size = N; rw [hp.heap]; exact h | 1, h => exact Row.pu h hp.pu | (_+2), h => exact Row.pu h hp.pu
    case hC0 =>
      exact HN.out.symm
    case hop =>
      refine ⟨?_, ?_, ?_, ?_, ?_, ?_, ?_, ?_, ?_, ?_, ?_, ?_, ?_, ?_, ?_, trivial⟩
      · intro a' w' s hs hp hC hlo hhi he
        rw [if_neg (by decide)]
        clear hlo hhi
        have e3 := hs 3 (by kernel_rfl)
        try simp [Is, Region.binds] at he
        obtain ⟨c1, c2, c3⟩ := HLD.out _ hp; exact op_valS rfl (wanted_none rfl) (by first | (go_simp; done) | (go_simp; rfl)) rfl (Sm.refl _)
      · intro a' w' s hs hp hC hlo hhi he
        rw [if_neg (by decide)]
        clear hlo hhi
        try simp [Is, Region.binds] at he
        exact op_valS rfl (wanted_none rfl) (by first | (go_simp; done) | (go_simp; rfl) | (simp [execOp, Act.eval, go_sem, *]; done) | (simp [execOp, Act.eval, go_sem, *]; rfl)) rfl (Sm.refl _)
      · intro a' w' s hs hp hC hlo hhi he
        rw [if_neg (by decide)]
        clear hlo hhi
        try simp [Is, Region.binds] at he
        exact op_valS rfl (wanted_none rfl) (by first | (go_simp; done) | (go_simp; rfl) | (simp [execOp, Act.eval, go_sem, *]; done) | (simp [execOp, Act.eval, go_sem, *]; rfl)) rfl (Sm.refl _)
      · intro a' w' s hs hp hC hlo hhi he
        rw [if_neg (by decide)]
        clear hlo hhi
        try simp [Is, Region.binds] at he
        obtain ⟨c1, c2, c3⟩ := HLD.out _ hp; exact op_valS rfl (wanted_none rfl) (by first | (go_simp; done) | (go_simp; rfl)) rfl (Sm.refl _)
      · intro a' w' s hs hp hC hlo hhi he
        rw [if_neg (by decide)]
        clear hlo hhi
        have e3 := hs 3 (by kernel_rfl)
        try simp [Is, Region.binds] at he
        obtain ⟨c1, c2, c3⟩ := HLD.out _ hp; exact op_valS rfl (wanted_none rfl) (by first | (go_simp; done) | (go_simp; rfl)) rfl (Sm.refl _)
      · intro a' w' s hs hp hC hlo hhi he
        rw [if_neg (by decide)]
        clear hlo hhi
        try simp [Is, Region.binds] at he
        exact op_valS rfl (wanted_none rfl) (by first | (go_simp; done) | (go_simp; rfl) | (simp [execOp, Act.eval, go_sem, *]; done) | (simp [execOp, Act.eval, go_sem, *]; rfl)) rfl (Sm.refl _)
      · intro a' w' s hs hp hC hlo hhi he
        rw [if_neg (by decide)]
        clear hlo hhi
        try simp [Is, Region.binds] at he
        exact op_valS rfl (wanted_none rfl) (by first | (go_simp; done) | (go_simp; rfl) | (simp [execOp, Act.eval, go_sem, *]; done) | (simp [execOp, Act.eval, go_sem, *]; rfl)) rfl (Sm.refl _)
      · intro a' w' s hs hp hC hlo hhi he
        rw [if_neg (by decide)]
        clear hlo hhi
        try simp [Is, Region.binds] at he
        obtain ⟨c1, c2, c3⟩ := HLD.out _ hp; exact op_valS rfl (wanted_none rfl) (by first | (go_simp; done) | (go_simp; rfl)) rfl (Sm.refl _)
      · intro a' w' s hs hp hC hlo hhi he
        rw [if_neg (by decide)]
        clear hlo hhi
        try simp [Is, Region.binds] at he
        exact op_callS (HSE.out _ hp) rfl (wanted_none rfl) (by first | (go_simp; done) | (go_simp; rfl)) rfl
      · intro a' w' s hs hp hC hlo hhi he
        rw [if_neg (by decide)]
        clear hlo hhi
        try simp [Is, Region.binds] at he
        exact op_valS rfl (wanted_none rfl) (by first | (go_simp; done) | (go_simp; rfl) | (simp [execOp, Act.eval, go_sem, *]; done) | (simp [execOp, Act.eval, go_sem, *]; rfl)) rfl (Sm.refl _)
      · intro a' w' s hs hp hC hlo hhi he
        rw [if_neg (by decide)]
        clear hlo hhi
        try simp [Is, Region.binds] at he
        exact op_valS rfl (wanted_none rfl) (by first | (go_simp; done) | (go_simp; rfl) | (simp [execOp, Act.eval, go_sem, *]; done) | (simp [execOp, Act.eval, go_sem, *]; rfl)) rfl (Sm.refl _)
      · intro a' w' s hs hp hC hlo hhi he
        rw [if_neg (by decide)]
        clear hlo hhi
        try simp [Is, Region.binds] at he
        exact op_valS rfl (wanted_none rfl) (by first | (go_simp; done) | (go_simp; rfl) | (simp [execOp, Act.eval, go_sem, *]; done) | (simp [execOp, Act.eval, go_sem, *]; rfl)) rfl (Sm.refl _)
      · intro a' w' s hs hp hC hlo hhi he
        rw [if_pos (by decide)]; intro hsc; clear hsc
        have hs0 : s = 0 := Nat.le_antisymm (Nat.le_trans hhi (Nat.le_of_eq (by kernel_rfl))) (Nat.le_trans (Nat.le_of_eq (by kernel_rfl)) hlo)
        subst hs0
        clear hlo hhi
        try simp [Is, Region.binds] at he
        change w'.heap.size = N at hC; have hv : Value.pointer (some ⟨w'.heap.size, 0, none⟩) = .pointer (some ⟨N, 0, none⟩) := (by rw [hC]); refine op_valC (v := .pointer (some ⟨w'.heap.size, 0, none⟩)) rfl (wanted_none rfl) (by first | (go_simp; done) | (go_simp; rfl) | (go_simp; exact ⟨rfl, rfl⟩)) hv ?_ (But.pu (Below.alloc (Below.refl _ _) (Nat.le_refl _) _)); exact Row.newAt _ _ _ _ hC rfl
      · intro a' w' s hs hp hC hlo hhi he
        rw [if_pos (by decide)]; intro hsc; clear hsc
        have hs0 : s = 1 := Nat.le_antisymm (Nat.le_trans hhi (Nat.le_of_eq (by kernel_rfl))) (Nat.le_trans (Nat.le_of_eq (by kernel_rfl)) hlo)
        subst hs0
        clear hlo hhi
        try simp [Is, Region.binds] at he
        change Row w' N 9 [S []] at hC; obtain ⟨u9, hc⟩ : ∃ u, w'.cell? ⟨N, 0, none⟩ = some u := ⟨_, hC.cell 0 (by simp)⟩; have hf := hC.frozen 0 (by simp); have h6 := hC.set 0 (S sec); exact op_doneC rfl (wanted_none rfl) (by first | (go_simp; done) | (go_simp; rfl)) rfl (by simpa using h6) (But.set _ _ _)
      · intro a' w' s hs hp hC hlo hhi he
        rw [if_neg (by decide)]
        clear hlo hhi
        try simp [Is, Region.binds] at he
        exact op_valS rfl (wanted_none rfl) (by first | (go_simp; done) | (go_simp; rfl) | (simp [execOp, Act.eval, go_sem, *]; done) | (simp [execOp, Act.eval, go_sem, *]; rfl)) rfl (Sm.refl _)
    case hend =>
      intro a' w' hdef hsz hs hp hC hall
      obtain ⟨r0, r1, r2, r3, r4, r5, r6, r7, r8, r9, r10, r11, r12, r13, r14, -⟩ := hall
      have hA := agree_done (agree_step (agree_step (agree_step (agree_step (agree_step (agree_step (agree_step (agree_step (agree_step (agree_step (agree_step (agree_step (agree_step (agree_step (agree_init [20, 21, 22, 23, 24, 25, 26, 27, 28, 19, 29, 30, 10, 11] hsz hs (by kernel_rfl)) r0) r1) r2) r3) r4) r5) r6) r7) r8) r9) r10) r11) r12) r14)
      have ha := act_of hA hdef
      rw [ha]
      clear ha hA hs hsz hdef r0 r1 r2 r3 r4 r5 r6 r7 r8 r9 r10 r11 r12 r13 r14 
      (try simp only [List.setIfInBounds_toArray])
      (try dsimp only [List.set_cons_zero, List.set_cons_succ])
      (try simp only [Exit.then])
      change Row w' N 9 [S sec] at hC
      have hp05 : Pu w w' := But.below hp04 hp (by have := hp04.size; have := HN.out; omega) hp04.size
      have hh5 : HostAt w' hb ub nonce s := hp.row (xs := hostC ub nonce s) hh4 nhN
      have pw : PrW G w w' w.heap.size w2.heap.size N hb ub nonce s l m sec := ⟨hp.row hrp npN, hp.row hr4 (by have := hr4.lt; have := HN.out; omega), hC, hh5, HU.out.pu hp05, Nat.le_refl _, hp02.size, by have := hp04.size; have := HN.out; omega, hlt, hdom, hnG, Cg.ofPu hp05⟩
      clear hp hC hh5 hp05 hh4 hu4 hrp hr4 hp04 hp02 HLD HSE hgs npN nhN
      simp only [Option.isSome_some, if_true]
      have hkn := HKN.out
      subst hkn
      go_wp2_with fail
      have hcl := fun w2 (hp : Pu w' w2) => (pw.pu hp).cells
      have hlo := fun w2 (hp : Pu w' w2) => lockedW ((pw.pu hp).u) s.user hul now
      rw [HLK.out] at hlo
      have HCL := Lib.hid hcl
      have HLO := Lib.hid hlo
      clear hcl hlo
      apply region_pu (Φs := (Is _ :: Is _ :: Is _ :: Is _ :: Is _ :: Is _ :: Is _ :: Is _ :: Is _ :: Is _ :: Is _ :: Is _ :: Is _ :: Is _ :: Is _ :: [])) (hm := by kernel_rfl) (hE := by kernel_rfl) (hD := by kernel_rfl) (hsize := by kernel_rfl)
      case hop =>
        refine ⟨?_, ?_, ?_, ?_, ?_, ?_, ?_, ?_, ?_, ?_, ?_, ?_, ?_, ?_, ?_, trivial⟩
        · intro a' w' hs hp he
          have e11 := hs 11 (by kernel_rfl)
          try simp [Is, Region.binds] at he
          exact op_val rfl (wanted_none rfl) (by first | (go_simp; done) | (go_simp; rfl) | (simp [execOp, Act.eval, go_sem, *]; done) | (simp [execOp, Act.eval, go_sem, *]; rfl)) rfl (Pu.refl _)
        · intro a' w' hs hp he
          try simp [Is, Region.binds] at he
          exact op_val rfl (wanted_none rfl) (by first | (go_simp; done) | (go_simp; rfl) | (simp [execOp, Act.eval, go_sem, *]; done) | (simp [execOp, Act.eval, go_sem, *]; rfl)) rfl (Pu.refl _)
        · intro a' w' hs hp he
          try simp [Is, Region.binds] at he
          exact op_val rfl (wanted_none rfl) (by first | (go_simp; done) | (go_simp; rfl) | (simp [execOp, Act.eval, go_sem, *]; done) | (simp [execOp, Act.eval, go_sem, *]; rfl)) rfl (Pu.refl _)
        · intro a' w' hs hp he
          have e3 := hs 3 (by kernel_rfl)
          try simp [Is, Region.binds] at he
          obtain ⟨c1, c2, c3, c4, c5, c6⟩ := HCL.out _ hp; exact op_val rfl ((wanted_some rfl rfl (by first | (simp [he]; done) | (simp [he]; rfl))).trans rfl) (by first | (go_simp; done) | (go_simp; rfl)) rfl (Pu.refl _)
        · intro a' w' hs hp he
          try simp [Is, Region.binds] at he
          first | exact op_skip rfl ((wanted_some rfl rfl (by first | (simp [he]; done) | (simp [he]; rfl))).trans rfl) rfl | exact op_val rfl ((wanted_some rfl rfl (by first | (simp [he]; done) | (simp [he]; rfl))).trans rfl) (by first | (go_simp; done) | (go_simp; rfl) | (simp [execOp, Act.eval, go_sem, *]; done) | (simp [execOp, Act.eval, go_sem, *]; rfl)) rfl (Pu.refl _)
        · intro a' w' hs hp he
          try simp [Is, Region.binds] at he
          first | exact op_skip rfl ((wanted_some rfl rfl (by first | (simp [he]; done) | (simp [he]; rfl))).trans rfl) rfl | exact op_val rfl ((wanted_some rfl rfl (by first | (simp [he]; done) | (simp [he]; rfl))).trans rfl) (by first | (go_simp; done) | (go_simp; rfl) | (simp [execOp, Act.eval, go_sem, *]; done) | (simp [execOp, Act.eval, go_sem, *]; rfl)) rfl (Pu.refl _)
        · intro a' w' hs hp he
          try simp [Is, Region.binds] at he
          obtain ⟨c1, c2, c3, c4, c5, c6⟩ := HCL.out _ hp; exact op_val rfl ((wanted_some rfl rfl (by first | (simp [he]; done) | (simp [he]; rfl))).trans rfl) (by first | (go_simp; done) | (go_simp; rfl)) rfl (Pu.refl _)
        · intro a' w' hs hp he
          have e3 := hs 3 (by kernel_rfl)
          try simp [Is, Region.binds] at he
          obtain ⟨c1, c2, c3, c4, c5, c6⟩ := HCL.out _ hp; exact op_val rfl ((wanted_some rfl rfl (by first | (simp [he]; done) | (simp [he]; rfl))).trans rfl) (by first | (go_simp; done) | (go_simp; rfl)) rfl (Pu.refl _)
        · intro a' w' hs hp he
          try simp [Is, Region.binds] at he
          first | exact op_skip rfl ((wanted_some rfl rfl (by first | (simp [he]; done) | (simp [he]; rfl))).trans rfl) rfl | exact op_val rfl ((wanted_some rfl rfl (by first | (simp [he]; done) | (simp [he]; rfl))).trans rfl) (by first | (go_simp; done) | (go_simp; rfl) | (simp [execOp, Act.eval, go_sem, *]; done) | (simp [execOp, Act.eval, go_sem, *]; rfl)) rfl (Pu.refl _)
        · intro a' w' hs hp he
          try simp [Is, Region.binds] at he
          first | exact op_skip rfl ((wanted_some rfl rfl (by first | (simp [he]; done) | (simp [he]; rfl))).trans rfl) rfl | exact op_val rfl ((wanted_some rfl rfl (by first | (simp [he]; done) | (simp [he]; rfl))).trans rfl) (by first | (go_simp; done) | (go_simp; rfl) | (simp [execOp, Act.eval, go_sem, *]; done) | (simp [execOp, Act.eval, go_sem, *]; rfl)) rfl (Pu.refl _)
        · intro a' w' hs hp he
          try simp [Is, Region.binds] at he
          obtain ⟨c1, c2, c3, c4, c5, c6⟩ := HCL.out _ hp; exact op_val rfl ((wanted_some rfl rfl (by first | (simp [he]; done) | (simp [he]; rfl))).trans rfl) (by first | (go_simp; done) | (go_simp; rfl)) rfl (Pu.refl _)
        · intro a' w' hs hp he
          have e2 := hs 2 (by kernel_rfl)
          try simp [Is, Region.binds] at he
          first | exact op_skip rfl ((wanted_some rfl rfl (by first | (simp [he]; done) | (simp [he]; rfl))).trans rfl) rfl | exact op_val rfl ((wanted_some rfl rfl (by first | (simp [he]; done) | (simp [he]; rfl))).trans rfl) (by first | (go_simp; done) | (go_simp; rfl) | (simp [execOp, Act.eval, go_sem, *]; done) | (simp [execOp, Act.eval, go_sem, *]; rfl)) rfl (Pu.refl _)
        · intro a' w' hs hp he
          try simp [Is, Region.binds] at he
          exact op_callP ((HLO.out _ hp).mono (by rintro e w2 ⟨rfl, rfl⟩; exact ⟨rfl, Pu.refl _⟩)) rfl ((wanted_some rfl rfl (by first | (simp [he]; done) | (simp [he]; rfl))).trans rfl) (by first | (go_simp; done) | (go_simp; rfl)) (fun _ => rfl)
        · intro a' w' hs hp he
          try simp [Is, Region.binds] at he
          exact op_val rfl (wanted_none rfl) (by first | (go_simp; done) | (go_simp; rfl) | (simp [execOp, Act.eval, go_sem, *]; done) | (simp [execOp, Act.eval, go_sem, *]; rfl)) rfl (Pu.refl _)
        · intro a' w' hs hp he
          try simp [Is, Region.binds] at he
          exact op_val rfl (wanted_none rfl) (by first | (go_simp; done) | (go_simp; rfl) | (simp [execOp, Act.eval, go_sem, *]; done) | (simp [execOp, Act.eval, go_sem, *]; rfl)) rfl (Pu.refl _)
      case hend =>
        intro a' w' hdef hsz hs hp hall
        obtain ⟨r0, r1, r2, r3, r4, r5, r6, r7, r8, r9, r10, r11, r12, r13, r14, -⟩ := hall
        have hA := agree_done (agree_step (agree_step (agree_step (agree_step (agree_step (agree_step (agree_step (agree_step (agree_step (agree_step (agree_step (agree_step (agree_step (agree_step (agree_step (agree_init [35, 36, 37, 38, 39, 40, 41, 42, 43, 44, 45, 46, 47, 48, 34] hsz hs (by kernel_rfl)) r0) r1) r2) r3) r4) r5) r6) r7) r8) r9) r10) r11) r12) r13) r14)
        have ha := act_of hA hdef
        rw [ha]
        clear ha hA hs hsz hdef r0 r1 r2 r3 r4 r5 r6 r7 r8 r9 r10 r11 r12 r13 r14 
        (try simp only [List.setIfInBounds_toArray])
        (try dsimp only [List.set_cons_zero, List.set_cons_succ])
        (try simp only [Exit.then])
        replace pw := pw.pu hp
        clear hp HCL HLO
        rename World => w5
        simp only [Option.isSome_some, if_true]
        go_wp2_with fail
        have HCL7 := Lib.hid (fun w2 (hp : Pu w5 w2) => (pw.pu hp).cells)
        apply region_pu (Φs := (Is _ :: Is _ :: Is _ :: Is _ :: Is _ :: Is _ :: Is _ :: Is _ :: Is _ :: Is _ :: Is _ :: [])) (hm := by kernel_rfl) (hE := by kernel_rfl) (hD := by kernel_rfl) (hsize := by kernel_rfl)
        case hop =>
          refine ⟨?_, ?_, ?_, ?_, ?_, ?_, ?_, ?_, ?_, ?_, ?_, trivial⟩
          · intro a' w' hs hp he
            have e8 := hs 8 (by kernel_rfl)
            try simp [Is, Region.binds] at he
            exact op_val rfl (wanted_none rfl) (by first | (go_simp; done) | (go_simp; rfl) | (simp [execOp, Act.eval, go_sem, *]; done) | (simp [execOp, Act.eval, go_sem, *]; rfl)) rfl (Pu.refl _)
          · intro a' w' hs hp he
            try simp [Is, Region.binds] at he
            obtain ⟨c1, c2, c3, c4, c5, c6⟩ := HCL7.out _ hp; exact op_val rfl (wanted_none rfl) (by first | (go_simp; done) | (go_simp; rfl)) rfl (Pu.refl _)
          · intro a' w' hs hp he
            have e10 := hs 10 (by kernel_rfl)
            try simp [Is, Region.binds] at he
            obtain ⟨c1, c2, c3, c4, c5, c6⟩ := HCL7.out _ hp; exact op_val rfl (wanted_none rfl) (by first | (go_simp; done) | (go_simp; rfl)) rfl (Pu.refl _)
          · intro a' w' hs hp he
            have e3 := hs 3 (by kernel_rfl)
            try simp [Is, Region.binds] at he
            obtain ⟨c1, c2, c3, c4, c5, c6⟩ := HCL7.out _ hp; exact op_val rfl (wanted_none rfl) (by first | (go_simp; done) | (go_simp; rfl)) rfl (Pu.refl _)
          · intro a' w' hs hp he
            try simp [Is, Region.binds] at he
            exact op_val rfl (wanted_none rfl) (by first | (go_simp; done) | (go_simp; rfl) | (simp [execOp, Act.eval, go_sem, *]; done) | (simp [execOp, Act.eval, go_sem, *]; rfl)) rfl (Pu.refl _)
          · intro a' w' hs hp he
            try simp [Is, Region.binds] at he
            exact op_val rfl (wanted_none rfl) (by first | (go_simp; done) | (go_simp; rfl) | (simp [execOp, Act.eval, go_sem, *]; done) | (simp [execOp, Act.eval, go_sem, *]; rfl)) rfl (Pu.refl _)
          · intro a' w' hs hp he
            try simp [Is, Region.binds] at he
            obtain ⟨c1, c2, c3, c4, c5, c6⟩ := HCL7.out _ hp; exact op_val rfl (wanted_none rfl) (by first | (go_simp; done) | (go_simp; rfl)) rfl (Pu.refl _)
          · intro a' w' hs hp he
            try simp [Is, Region.binds] at he
            exact op_callP (HPR.out _) rfl (wanted_none rfl) (by first | (go_simp; done) | (go_simp; rfl)) (fun _ => rfl)
          · intro a' w' hs hp he
            try simp [Is, Region.binds] at he
            exact op_callP (HSA.out _) rfl (wanted_none rfl) (by first | (go_simp; done) | (go_simp; rfl)) (fun _ => rfl)
          · intro a' w' hs hp he
            try simp [Is, Region.binds] at he
            exact op_val rfl (wanted_none rfl) (by first | (go_simp; done) | (go_simp; rfl) | (simp [execOp, Act.eval, go_sem, *]; done) | (simp [execOp, Act.eval, go_sem, *]; rfl)) rfl (Pu.refl _)
          · intro a' w' hs hp he
            try simp [Is, Region.binds] at he
            exact op_val rfl (wanted_none rfl) (by first | (go_simp; done) | (go_simp; rfl) | (simp [execOp, Act.eval, go_sem, *]; done) | (simp [execOp, Act.eval, go_sem, *]; rfl)) rfl (Pu.refl _)
        case hend =>
          intro a' w' hdef hsz hs hp hall
          obtain ⟨r0, r1, r2, r3, r4, r5, r6, r7, r8, r9, r10, -⟩ := hall
          have hA := agree_done (agree_step (agree_step (agree_step (agree_step (agree_step (agree_step (agree_step (agree_step (agree_step (agree_step (agree_step (agree_init [50, 51, 52, 53, 54, 55, 56, 57, 58, 59, 49] hsz hs (by kernel_rfl)) r0) r1) r2) r3) r4) r5) r6) r7) r8) r9) r10)
          have ha := act_of hA hdef
          rw [ha]
          clear ha hA hs hsz hdef r0 r1 r2 r3 r4 r5 r6 r7 r8 r9 r10 
          (try simp only [List.setIfInBounds_toArray])
          (try dsimp only [List.set_cons_zero, List.set_cons_succ])
          (try simp only [Exit.then])
          replace pw := pw.pu hp
          rename World => w6
          have HCL := Lib.hid (fun w2 (hp : Pu w6 w2) => (pw.pu hp).cells)
          clear hp HCL7
          simp only [Option.isSome_some, if_true]
          go_wp2_with fail
          apply region_writer (g := w6.heap.size) (n := 8) (hn := by kernel_rfl) (hlast := rfl) (hU := by kernel_rfl) (Φ1 := ([])) (Φm := Is _) (Φ2 := (Is _ :: Is _ :: Is _ :: Is _ :: Is _ :: Is _ :: Is _ :: [])) (hm := by kernel_rfl) (hE := by kernel_rfl) (hD := by kernel_rfl) (hsize := by kernel_rfl)
          case hop =>
            refine ⟨?_, ?_, ?_, ?_, ?_, ?_, ?_, ?_, trivial⟩
            · intro a' w' hs hp he
              have hp : Pu _ w' := hp
              have e3 := hs 3 (by kernel_rfl)
              try simp [Is, Region.binds] at he
              obtain ⟨c1, c2, c3, c4, c5, c6⟩ := HCL.out _ hp; exact op_valB rfl (wanted_none rfl) (by first | (go_simp; done) | (go_simp; rfl)) rfl (But.pu (Pu.refl _))
            · intro a' w' hs hp he
              have hp : But w6.heap.size _ w' := hp
              replace hp := But.toPu hp (Nat.le_refl _)
              try simp [Is, Region.binds] at he
              exact op_val rfl (wanted_none rfl) (by first | (go_simp; done) | (go_simp; rfl) | (simp [execOp, Act.eval, go_sem, *]; done) | (simp [execOp, Act.eval, go_sem, *]; rfl)) rfl (Pu.refl _)
            · intro a' w' hs hp he
              have hp : But w6.heap.size _ w' := hp
              replace hp := But.toPu hp (Nat.le_refl _)
              try simp [Is, Region.binds] at he
              exact op_val rfl (wanted_none rfl) (by first | (go_simp; done) | (go_simp; rfl) | (simp [execOp, Act.eval, go_sem, *]; done) | (simp [execOp, Act.eval, go_sem, *]; rfl)) rfl (Pu.refl _)
            · intro a' w' hs hp he
              have hp : But w6.heap.size _ w' := hp
              replace hp := But.toPu hp (Nat.le_refl _)
              try simp [Is, Region.binds] at he
              obtain ⟨c1, c2, c3, c4, c5, c6⟩ := HCL.out _ hp; exact op_val rfl (wanted_none rfl) (by first | (go_simp; done) | (go_simp; rfl)) rfl (Pu.refl _)
            · intro a' w' hs hp he
              have hp : But w6.heap.size _ w' := hp
              replace hp := But.toPu hp (Nat.le_refl _)
              have e3 := hs 3 (by kernel_rfl)
              try simp [Is, Region.binds] at he
              obtain ⟨c1, c2, c3, c4, c5, c6⟩ := HCL.out _ hp; exact op_val rfl (wanted_none rfl) (by first | (go_simp; done) | (go_simp; rfl)) rfl (Pu.refl _)
            · intro a' w' hs hp he
              have hp : But w6.heap.size _ w' := hp
              replace hp := But.toPu hp (Nat.le_refl _)
              try simp [Is, Region.binds] at he
              exact op_val rfl (wanted_none rfl) (by first | (go_simp; done) | (go_simp; rfl) | (simp [execOp, Act.eval, go_sem, *]; done) | (simp [execOp, Act.eval, go_sem, *]; rfl)) rfl (Pu.refl _)
            · intro a' w' hs hp he
              have hp : But w6.heap.size _ w' := hp
              replace hp := But.toPu hp (Nat.le_refl _)
              try simp [Is, Region.binds] at he
              exact op_val rfl (wanted_none rfl) (by first | (go_simp; done) | (go_simp; rfl) | (simp [execOp, Act.eval, go_sem, *]; done) | (simp [execOp, Act.eval, go_sem, *]; rfl)) rfl (Pu.refl _)
            · intro a' w' hs hp he
              have hp : But w6.heap.size _ w' := hp
              replace hp := But.toPu hp (Nat.le_refl _)
              try simp [Is, Region.binds] at he
              obtain ⟨c1, c2, c3, c4, c5, c6⟩ := HCL.out _ hp; exact op_val rfl (wanted_none rfl) (by first | (go_simp; done) | (go_simp; rfl)) rfl (Pu.refl _)
          case hend =>
            intro a' w' hdef hsz hs hp hall
            replace hp := But.toPu hp (Nat.le_refl _)
            obtain ⟨r0, r1, r2, r3, r4, r5, r6, r7, -⟩ := hall
            have hA := agree_done (agree_step (agree_step (agree_step (agree_step (agree_step (agree_step (agree_step (agree_step (agree_initL [70, 71, 72, 73, 74, 75, 76, 77] hsz hs (by kernel_rfl)) r0) r1) r2) r3) r4) r5) r6) r7)
            have ha := act_of hA hdef
            rw [ha]
            clear ha hA hs hsz hdef r0 r1 r2 r3 r4 r5 r6 r7 
            (try simp only [List.setIfInBounds_toArray])
            (try dsimp only [List.set_cons_zero, List.set_cons_succ])
            (try simp only [Exit.then])
            refine op_callK rfl (wanted_none rfl) (by first | (go_simp; done) | (go_simp; rfl)) ((goodW (pw.pu hp).u s.user hul).mono ?_); rintro e w7 ⟨rfl, hu7, hc7⟩; refine ⟨_, rfl, ?_⟩
            (try simp only [Exit.inBlock, Exit.then])
            have pw7 := (pw.pu hp).users hu7 hc7
            clear hu7 hc7 hp HCL
            have hrow : Row w7 hb 123 (hostV ub nonce s 0 0) := by
              have := pw7.h
              unfold HostAt hostC at this
              rw [HD0.out] at this
              exact this
            have n1 : N ≠ hb := by have := pw7.ns; omega
            have n2 : w.heap.size ≠ hb := by omega
            have hset := hostSet N w.heap.size hb ub sec nonce s (w7.setCell ⟨hb, 7, none⟩ (.int .i32 1)) (by omega) (by omega) (pw7.q.setOther _ _ n1) (pw7.p.setOther _ _ n2) (by have := hrow.set 7 (.int .i32 1); exact this)
            rw [← HS9.out] at hset
            have hrun : ∀ (w1 : World), (callFunc 86 #[.pointer (some ⟨N, 0, none⟩), .pointer (some ⟨w.heap.size, 0, none⟩)]).run Tryz.prog w1 = .ok (.enter 86 #[.pointer (some ⟨N, 0, none⟩), .pointer (some ⟨w.heap.size, 0, none⟩)]) w1 := fun w1 => run_callFunc_body Tryz.func86 (by kernel_rfl) (by kernel_rfl) _ w1
            have hdo := once_first hb 6 86 #[.pointer (some ⟨N, 0, none⟩), .pointer (some ⟨w.heap.size, 0, none⟩)] w7 (fun w6 => Row w6 hb 123 (hostV ub nonce s9 0 1) ∧ But hb w7 w6) hrun (by have := hrow.cell 6 (by simp [hostV]); simpa [hostV] using this) (by have := hrow.cell 7 (by simp [hostV]); simpa [hostV] using this) (hrow.frozen 7 (by simp [hostV])) (hset.mono (by
              rintro e2 w6 ⟨rfl, hr, hbb⟩
              exact ⟨rfl, ⟨hr, (But.set _ _ _).trans hbb⟩, by have := hr.cell 6 (by simp [hostV]); simpa [hostV] using this, hr.frozen 6 (by simp [hostV]), by have := hr.cell 7 (by simp [hostV]); simpa [hostV] using this, hr.frozen 7 (by simp [hostV])⟩))
            have hd2 := hdo.mono (R' := fun e2 w8 => e2 = .returned (.tuple #[]) ∧ HostAt w8 hb ub nonce s9 ∧ But hb w7 w8) (by
              rintro e2 w8 ⟨rfl, w6, ⟨hr, hbb⟩, rfl⟩
              refine ⟨rfl, ?_, ((hbb.trans (But.pu (puDrew w6))).trans (But.set _ _ _)).trans (But.set _ _ _)⟩
              unfold HostAt hostC
              rw [HS9D.out]
              exact (hr.drew.set 6 _).set 7 _)
            have HD := Lib.hid hd2
            obtain ⟨c1, c2, c3, c4, c5, c6⟩ := pw7.cells
            clear hd2 hdo hset hrun hrow n1 n2 c2 c4 c5 c6
            go_wp2_with (go_at_call 85; refine HD.out.mono ?_; rintro e2 w8 ⟨rfl, hh8, hb8⟩)
            have pw8 := pw7.host hh8 hb8
            clear pw7 hh8 hb8 c1 c3
            have hcl8 := fun w2 (hp : Pu w8 w2) => (pw8.pu hp).cells
            rw [HS9P.out] at hcl8
            have HCL8 := Lib.hid hcl8
            clear hcl8
            apply region_pu (Φs := (Is _ :: Is _ :: Is _ :: Is _ :: Is _ :: Is _ :: Is _ :: Is _ :: Is _ :: Is _ :: Is _ :: Is _ :: Is _ :: [])) (hm := by kernel_rfl) (hE := by kernel_rfl) (hD := by kernel_rfl) (hsize := by kernel_rfl)
            case hop =>
              refine ⟨?_, ?_, ?_, ?_, ?_, ?_, ?_, ?_, ?_, ?_, ?_, ?_, ?_, trivial⟩
              · intro a' w' hs hp he
                have e10 := hs 10 (by kernel_rfl)
                try simp [Is, Region.binds] at he
                obtain ⟨c1, c2, c3, c4, c5, c6⟩ := HCL8.out _ hp; exact op_val rfl (wanted_none rfl) (by first | (go_simp; done) | (go_simp; rfl)) rfl (Pu.refl _)
              · intro a' w' hs hp he
                have e3 := hs 3 (by kernel_rfl)
                try simp [Is, Region.binds] at he
                obtain ⟨c1, c2, c3, c4, c5, c6⟩ := HCL8.out _ hp; exact op_val rfl (wanted_none rfl) (by first | (go_simp; done) | (go_simp; rfl)) rfl (Pu.refl _)
              · intro a' w' hs hp he
                try simp [Is, Region.binds] at he
                exact op_val rfl (wanted_none rfl) (by first | (go_simp; done) | (go_simp; rfl) | (simp [execOp, Act.eval, go_sem, *]; done) | (simp [execOp, Act.eval, go_sem, *]; rfl)) rfl (Pu.refl _)
              · intro a' w' hs hp he
                try simp [Is, Region.binds] at he
                exact op_val rfl (wanted_none rfl) (by first | (go_simp; done) | (go_simp; rfl) | (simp [execOp, Act.eval, go_sem, *]; done) | (simp [execOp, Act.eval, go_sem, *]; rfl)) rfl (Pu.refl _)
              · intro a' w' hs hp he
                try simp [Is, Region.binds] at he
                obtain ⟨c1, c2, c3, c4, c5, c6⟩ := HCL8.out _ hp; exact op_val rfl (wanted_none rfl) (by first | (go_simp; done) | (go_simp; rfl)) rfl (Pu.refl _)
              · intro a' w' hs hp he
                try simp [Is, Region.binds] at he
                exact op_callP (HFI.out _) rfl (wanted_none rfl) (by first | (go_simp; done) | (go_simp; rfl)) (fun _ => rfl)
              · intro a' w' hs hp he
                try simp [Is, Region.binds] at he
                exact op_val rfl (wanted_none rfl) (by first | (go_simp; done) | (go_simp; rfl) | (simp [execOp, Act.eval, go_sem, *]; done) | (simp [execOp, Act.eval, go_sem, *]; rfl)) rfl (Pu.refl _)
              · intro a' w' hs hp he
                try simp [Is, Region.binds] at he
                exact op_callP (HPU.out _) rfl (wanted_none rfl) (by first | (go_simp; done) | (go_simp; rfl)) (fun _ => rfl)
              · intro a' w' hs hp he
                try simp [Is, Region.binds] at he
                exact op_val rfl (wanted_none rfl) (by first | (go_simp; done) | (go_simp; rfl) | (simp [execOp, Act.eval, go_sem, *]; done) | (simp [execOp, Act.eval, go_sem, *]; rfl)) rfl (Pu.refl _)
              · intro a' w' hs hp he
                try simp [Is, Region.binds] at he
                exact op_val rfl (wanted_none rfl) (by first | (go_simp; done) | (go_simp; rfl) | (simp [execOp, Act.eval, go_sem, *]; done) | (simp [execOp, Act.eval, go_sem, *]; rfl)) rfl (Pu.refl _)
              · intro a' w' hs hp he
                try simp [Is, Region.binds] at he
                exact op_val rfl (wanted_none rfl) (by first | (go_simp; done) | (go_simp; rfl) | (simp [execOp, Act.eval, go_sem, *]; done) | (simp [execOp, Act.eval, go_sem, *]; rfl)) rfl (Pu.refl _)
              · intro a' w' hs hp he
                try simp [Is, Region.binds] at he
                exact op_val rfl (wanted_none rfl) (by first | (go_simp; done) | (go_simp; rfl) | (simp [execOp, Act.eval, go_sem, *]; done) | (simp [execOp, Act.eval, go_sem, *]; rfl)) rfl (Pu.refl _)
              · intro a' w' hs hp he
                try simp [Is, Region.binds] at he
                exact op_val rfl (wanted_none rfl) (by first | (go_simp; done) | (go_simp; rfl) | (simp [execOp, Act.eval, go_sem, *]; done) | (simp [execOp, Act.eval, go_sem, *]; rfl)) rfl (Pu.refl _)
            case hend =>
              intro a' w' hdef hsz hs hp hall
              obtain ⟨r0, r1, r2, r3, r4, r5, r6, r7, r8, r9, r10, r11, r12, -⟩ := hall
              have hA := agree_done (agree_step (agree_step (agree_step (agree_step (agree_step (agree_step (agree_step (agree_step (agree_step (agree_step (agree_step (agree_step (agree_step (agree_init [85, 86, 87, 88, 89, 90, 91, 92, 84, 93, 94, 12, 13] hsz hs (by kernel_rfl)) r0) r1) r2) r3) r4) r5) r6) r7) r8) r9) r10) r11) r12)
              have ha := act_of hA hdef
              rw [ha]
              clear ha hA hs hsz hdef r0 r1 r2 r3 r4 r5 r6 r7 r8 r9 r10 r11 r12 
              (try simp only [List.setIfInBounds_toArray])
              (try dsimp only [List.set_cons_zero, List.set_cons_succ])
              (try simp only [Exit.then])
              simp only [Option.isSome_some, if_true]
              go_wp2_with fail
              go_ret2
              exact ⟨rfl, (pw8.pu hp).h, (pw8.pu hp).u, (pw8.pu hp).cg⟩
  · have hG' : ∀ w, Calls Tryz.prog 82 #[S b] w fun e w' => e = .returned (.tuple #[.agg #[S m], .bool true]) ∧ Pu w w' := by rw [hf] at hG; exact hG
    have HG := Lib.hid hG'
    have hm32 := (fixR_some hf).2.1
    have hkn : kn = true := by have := HSEC.out; rw [hsv] at this; simp at this; exact this.2
    have hse : sec = sc := by have := HSEC.out; rw [hsv] at this; simp [optV] at this; first | exact this.1.symm | exact bs_inj this.1.symm | exact bs_inj this.1
    subst hse
    have hsl := secV_len hl hsv
    have hPr := fun w => proofW1 sec s.papers (by omega) (by omega) w
    have hSa := fun w => same m (proofL sec s.papers) (by omega) (by rw [show (proofL sec s.papers).length = 32 from macL_length _ _]; omega) w
    have e9 : provR l s b now = ⟨[], 3, s, modN l s.user (failS now)⟩ := by unfold provR; rw [hf]; simp only; rw [hsv]; simp only; rw [if_neg (by rw [hlk]; simp), if_neg hme]
    rw [e9]
    rw [show decide (m = proofL sec s.papers) = false by simp [hme]] at hSa
    obtain ⟨pr, hpr⟩ : ∃ x, x = proofL sec s.papers := ⟨_, rfl⟩
    rw [← hpr] at hPr hSa
    have HPR := Lib.hid hPr
    have HSA := Lib.hid hSa
    have HKN := Lib.hid hkn
    have HLK := Lib.hid hlk
    clear hG hG' hf e9 h hu hsv hlk hkn hPr hSa hpr hme
    go_enter Tryz.func60, Tryz.ntmps60
    go_wp2_with (first
      | (go_at_call 82; refine (HG.out _).mono ?_; rintro e w2 ⟨rfl, hp2⟩)
      | (refine wpList_store_part rfl 100 (.tmp 8) (.tmp 17) rfl w2.heap.size 0 [S m] (by rfl) (by rfl) (Row.newAt w2 w2.heap.size _ _ rfl rfl) hi1 (by simp) (by simp [Value.oneCell']) ?_; intro w4 hr4 hch4))
    rw [splice_all (by rfl)] at hr4
    have hp02 : Pu w w2 := Pu.trans hpb hp2
    have hp04 : Pu w w4 := hch4.below (hp02.alloc (.cells #[.string ⟨#[]⟩] 100)) hp02.size
    have hs24 := hp02.size
    have hb24 : Pu w2 w4 := hch4.below ((Pu.refl w2).alloc (.cells #[.string ⟨#[]⟩] 100)) (Nat.le_refl _)
    have hrp := (hrb.pu hp2).pu hb24
    have hh4 := H.out.pu hp04
    have hu4 := HU.out.pu hp04
    have hgs : ∀ g, G g → g < w4.heap.size := fun g hg => Nat.lt_of_lt_of_le (hdom g hg) hp04.size
    obtain ⟨N, hN⟩ : ∃ N, N = w4.heap.size := ⟨_, rfl⟩
    have npN : w.heap.size ≠ N := by have := hrp.lt; omega
    have nhN : hb ≠ N := by have := hp04.size; omega
    have hld : ∀ w', But N w4 w' → w'.cell? ⟨w.heap.size, 0, none⟩ = some (.pointer (some ⟨hb, 0, none⟩)) ∧ w'.cell? ⟨hb, 0, none⟩ = some (.pointer (some ⟨ub, 0, none⟩)) ∧ w'.cell? ⟨hb, 4, none⟩ = some (S s.user) := fun w' hp => by
      have h1 : HostAt w' hb ub nonce s := hp.row (xs := hostC ub nonce s) hh4 nhN
      obtain ⟨c0, -, -, -, c4, -, -⟩ := h1.cells
      have h2 := (hp.row hrp npN).cell 0 (by simp)
      simp at h2
      exact ⟨h2, c0, c4⟩
    have hse : ∀ w', But N w4 w' → Calls Tryz.prog 83 #[.pointer (some ⟨ub, 0, none⟩), S s.user] w' fun e w'' => e = .returned (.tuple #[S sec, .bool kn]) ∧ w'' = w' := fun w' hp => by
      have := secretW (hu4.cg (H := fun g => g = N) ⟨hp.os, hp.tape, hp.output, hp.size, fun k hk hne => hp.block k hk hne⟩ (fun g hg hG => by have := hgs g hG; omega)) s.user hul
      rw [HSEC.out] at this
      exact this
    have HLD := Lib.hid hld
    have HSE := Lib.hid hse
    have HN := Lib.hid hN
    clear hld hse hch4 hs24 hb24 hN
    apply region_still (g := N) (chain := [12, 13]) (C := (fun q w' => match q with | 0 => w'.heap.size = N | 1 => Row w' N 9 [S []] | _ => Row w' N 9 [S sec])) (Φs := (Is _ :: Is _ :: Is _ :: Is _ :: Is _ :: Is _ :: Is _ :: Is _ :: Is _ :: Is _ :: Is _ :: Is _ :: Is (.pointer (some ⟨N, 0, none⟩)) :: Is _ :: Is _ :: [])) (hm := by kernel_rfl) (hE := by kernel_rfl) (hD := by kernel_rfl) (hup := by kernel_rfl) (hch := by kernel_rfl) (hsize := by kernel_rfl)
    case hC =>
      intro s a b h hp
      match s, h with | 0, h => show b.heap.size = N; rw [hp.heap]; exact h | 1, h => exact Row.pu h hp.pu | (_+2), h => exact Row.pu h hp.pu
    case hC0 =>
      exact HN.out.symm
    case hop =>
      refine ⟨?_, ?_, ?_, ?_, ?_, ?_, ?_, ?_, ?_, ?_, ?_, ?_, ?_, ?_, ?_, trivial⟩
      · intro a' w' s hs hp hC hlo hhi he
        rw [if_neg (by decide)]
        clear hlo hhi
        have e3 := hs 3 (by kernel_rfl)
        try simp [Is, Region.binds] at he
        obtain ⟨c1, c2, c3⟩ := HLD.out _ hp; exact op_valS rfl (wanted_none rfl) (by first | (go_simp; done) | (go_simp; rfl)) rfl (Sm.refl _)
      · intro a' w' s hs hp hC hlo hhi he
        rw [if_neg (by decide)]
        clear hlo hhi
        try simp [Is, Region.binds] at he
        exact op_valS rfl (wanted_none rfl) (by first | (go_simp; done) | (go_simp; rfl) | (simp [execOp, Act.eval, go_sem, *]; done) | (simp [execOp, Act.eval, go_sem, *]; rfl)) rfl (Sm.refl _)
      · intro a' w' s hs hp hC hlo hhi he
        rw [if_neg (by decide)]
        clear hlo hhi
        try simp [Is, Region.binds] at he
        exact op_valS rfl (wanted_none rfl) (by first | (go_simp; done) | (go_simp; rfl) | (simp [execOp, Act.eval, go_sem, *]; done) | (simp [execOp, Act.eval, go_sem, *]; rfl)) rfl (Sm.refl _)
      · intro a' w' s hs hp hC hlo hhi he
        rw [if_neg (by decide)]
        clear hlo hhi
        try simp [Is, Region.binds] at he
        obtain ⟨c1, c2, c3⟩ := HLD.out _ hp; exact op_valS rfl (wanted_none rfl) (by first | (go_simp; done) | (go_simp; rfl)) rfl (Sm.refl _)
      · intro a' w' s hs hp hC hlo hhi he
        rw [if_neg (by decide)]
        clear hlo hhi
        have e3 := hs 3 (by kernel_rfl)
        try simp [Is, Region.binds] at he
        obtain ⟨c1, c2, c3⟩ := HLD.out _ hp; exact op_valS rfl (wanted_none rfl) (by first | (go_simp; done) | (go_simp; rfl)) rfl (Sm.refl _)
      · intro a' w' s hs hp hC hlo hhi he
        rw [if_neg (by decide)]
        clear hlo hhi
        try simp [Is, Region.binds] at he
        exact op_valS rfl (wanted_none rfl) (by first | (go_simp; done) | (go_simp; rfl) | (simp [execOp, Act.eval, go_sem, *]; done) | (simp [execOp, Act.eval, go_sem, *]; rfl)) rfl (Sm.refl _)
      · intro a' w' s hs hp hC hlo hhi he
        rw [if_neg (by decide)]
        clear hlo hhi
        try simp [Is, Region.binds] at he
        exact op_valS rfl (wanted_none rfl) (by first | (go_simp; done) | (go_simp; rfl) | (simp [execOp, Act.eval, go_sem, *]; done) | (simp [execOp, Act.eval, go_sem, *]; rfl)) rfl (Sm.refl _)
      · intro a' w' s hs hp hC hlo hhi he
        rw [if_neg (by decide)]
        clear hlo hhi
        try simp [Is, Region.binds] at he
        obtain ⟨c1, c2, c3⟩ := HLD.out _ hp; exact op_valS rfl (wanted_none rfl) (by first | (go_simp; done) | (go_simp; rfl)) rfl (Sm.refl _)
      · intro a' w' s hs hp hC hlo hhi he
        rw [if_neg (by decide)]
        clear hlo hhi
        try simp [Is, Region.binds] at he
        exact op_callS (HSE.out _ hp) rfl (wanted_none rfl) (by first | (go_simp; done) | (go_simp; rfl)) rfl
      · intro a' w' s hs hp hC hlo hhi he
        rw [if_neg (by decide)]
        clear hlo hhi
        try simp [Is, Region.binds] at he
        exact op_valS rfl (wanted_none rfl) (by first | (go_simp; done) | (go_simp; rfl) | (simp [execOp, Act.eval, go_sem, *]; done) | (simp [execOp, Act.eval, go_sem, *]; rfl)) rfl (Sm.refl _)
      · intro a' w' s hs hp hC hlo hhi he
        rw [if_neg (by decide)]
        clear hlo hhi
        try simp [Is, Region.binds] at he
        exact op_valS rfl (wanted_none rfl) (by first | (go_simp; done) | (go_simp; rfl) | (simp [execOp, Act.eval, go_sem, *]; done) | (simp [execOp, Act.eval, go_sem, *]; rfl)) rfl (Sm.refl _)
      · intro a' w' s hs hp hC hlo hhi he
        rw [if_neg (by decide)]
        clear hlo hhi
        try simp [Is, Region.binds] at he
        exact op_valS rfl (wanted_none rfl) (by first | (go_simp; done) | (go_simp; rfl) | (simp [execOp, Act.eval, go_sem, *]; done) | (simp [execOp, Act.eval, go_sem, *]; rfl)) rfl (Sm.refl _)
      · intro a' w' s hs hp hC hlo hhi he
        rw [if_pos (by decide)]; intro hsc; clear hsc
        have hs0 : s = 0 := Nat.le_antisymm (Nat.le_trans hhi (Nat.le_of_eq (by kernel_rfl))) (Nat.le_trans (Nat.le_of_eq (by kernel_rfl)) hlo)
        subst hs0
        clear hlo hhi
        try simp [Is, Region.binds] at he
        change w'.heap.size = N at hC; have hv : Value.pointer (some ⟨w'.heap.size, 0, none⟩) = .pointer (some ⟨N, 0, none⟩) := (by rw [hC]); refine op_valC (v := .pointer (some ⟨w'.heap.size, 0, none⟩)) rfl (wanted_none rfl) (by first | (go_simp; done) | (go_simp; rfl) | (go_simp; exact ⟨rfl, rfl⟩)) hv ?_ (But.pu (Below.alloc (Below.refl _ _) (Nat.le_refl _) _)); exact Row.newAt _ _ _ _ hC rfl
      · intro a' w' s hs hp hC hlo hhi he
        rw [if_pos (by decide)]; intro hsc; clear hsc
        have hs0 : s = 1 := Nat.le_antisymm (Nat.le_trans hhi (Nat.le_of_eq (by kernel_rfl))) (Nat.le_trans (Nat.le_of_eq (by kernel_rfl)) hlo)
        subst hs0
        clear hlo hhi
        try simp [Is, Region.binds] at he
        change Row w' N 9 [S []] at hC; obtain ⟨u9, hc⟩ : ∃ u, w'.cell? ⟨N, 0, none⟩ = some u := ⟨_, hC.cell 0 (by simp)⟩; have hf := hC.frozen 0 (by simp); have h6 := hC.set 0 (S sec); exact op_doneC rfl (wanted_none rfl) (by first | (go_simp; done) | (go_simp; rfl)) rfl (by simpa using h6) (But.set _ _ _)
      · intro a' w' s hs hp hC hlo hhi he
        rw [if_neg (by decide)]
        clear hlo hhi
        try simp [Is, Region.binds] at he
        exact op_valS rfl (wanted_none rfl) (by first | (go_simp; done) | (go_simp; rfl) | (simp [execOp, Act.eval, go_sem, *]; done) | (simp [execOp, Act.eval, go_sem, *]; rfl)) rfl (Sm.refl _)
    case hend =>
      intro a' w' hdef hsz hs hp hC hall
      obtain ⟨r0, r1, r2, r3, r4, r5, r6, r7, r8, r9, r10, r11, r12, r13, r14, -⟩ := hall
      have hA := agree_done (agree_step (agree_step (agree_step (agree_step (agree_step (agree_step (agree_step (agree_step (agree_step (agree_step (agree_step (agree_step (agree_step (agree_step (agree_init [20, 21, 22, 23, 24, 25, 26, 27, 28, 19, 29, 30, 10, 11] hsz hs (by kernel_rfl)) r0) r1) r2) r3) r4) r5) r6) r7) r8) r9) r10) r11) r12) r14)
      have ha := act_of hA hdef
      rw [ha]
      clear ha hA hs hsz hdef r0 r1 r2 r3 r4 r5 r6 r7 r8 r9 r10 r11 r12 r13 r14 
      (try simp only [List.setIfInBounds_toArray])
      (try dsimp only [List.set_cons_zero, List.set_cons_succ])
      (try simp only [Exit.then])
      change Row w' N 9 [S sec] at hC
      have hp05 : Pu w w' := But.below hp04 hp (by have := hp04.size; have := HN.out; omega) hp04.size
      have hh5 : HostAt w' hb ub nonce s := hp.row (xs := hostC ub nonce s) hh4 nhN
      have pw : PrW G w w' w.heap.size w2.heap.size N hb ub nonce s l m sec := ⟨hp.row hrp npN, hp.row hr4 (by have := hr4.lt; have := HN.out; omega), hC, hh5, HU.out.pu hp05, Nat.le_refl _, hp02.size, by have := hp04.size; have := HN.out; omega, hlt, hdom, hnG, Cg.ofPu hp05⟩
      clear hp hC hh5 hp05 hh4 hu4 hrp hr4 hp04 hp02 HLD HSE hgs npN nhN
      simp only [Option.isSome_some, if_true]
      have hkn := HKN.out
      subst hkn
      go_wp2_with fail
      have hcl := fun w2 (hp : Pu w' w2) => (pw.pu hp).cells
      have hlo := fun w2 (hp : Pu w' w2) => lockedW ((pw.pu hp).u) s.user hul now
      rw [HLK.out] at hlo
      have HCL := Lib.hid hcl
      have HLO := Lib.hid hlo
      clear hcl hlo
      apply region_pu (Φs := (Is _ :: Is _ :: Is _ :: Is _ :: Is _ :: Is _ :: Is _ :: Is _ :: Is _ :: Is _ :: Is _ :: Is _ :: Is _ :: Is _ :: Is _ :: [])) (hm := by kernel_rfl) (hE := by kernel_rfl) (hD := by kernel_rfl) (hsize := by kernel_rfl)
      case hop =>
        refine ⟨?_, ?_, ?_, ?_, ?_, ?_, ?_, ?_, ?_, ?_, ?_, ?_, ?_, ?_, ?_, trivial⟩
        · intro a' w' hs hp he
          have e11 := hs 11 (by kernel_rfl)
          try simp [Is, Region.binds] at he
          exact op_val rfl (wanted_none rfl) (by first | (go_simp; done) | (go_simp; rfl) | (simp [execOp, Act.eval, go_sem, *]; done) | (simp [execOp, Act.eval, go_sem, *]; rfl)) rfl (Pu.refl _)
        · intro a' w' hs hp he
          try simp [Is, Region.binds] at he
          exact op_val rfl (wanted_none rfl) (by first | (go_simp; done) | (go_simp; rfl) | (simp [execOp, Act.eval, go_sem, *]; done) | (simp [execOp, Act.eval, go_sem, *]; rfl)) rfl (Pu.refl _)
        · intro a' w' hs hp he
          try simp [Is, Region.binds] at he
          exact op_val rfl (wanted_none rfl) (by first | (go_simp; done) | (go_simp; rfl) | (simp [execOp, Act.eval, go_sem, *]; done) | (simp [execOp, Act.eval, go_sem, *]; rfl)) rfl (Pu.refl _)
        · intro a' w' hs hp he
          have e3 := hs 3 (by kernel_rfl)
          try simp [Is, Region.binds] at he
          obtain ⟨c1, c2, c3, c4, c5, c6⟩ := HCL.out _ hp; exact op_val rfl ((wanted_some rfl rfl (by first | (simp [he]; done) | (simp [he]; rfl))).trans rfl) (by first | (go_simp; done) | (go_simp; rfl)) rfl (Pu.refl _)
        · intro a' w' hs hp he
          try simp [Is, Region.binds] at he
          first | exact op_skip rfl ((wanted_some rfl rfl (by first | (simp [he]; done) | (simp [he]; rfl))).trans rfl) rfl | exact op_val rfl ((wanted_some rfl rfl (by first | (simp [he]; done) | (simp [he]; rfl))).trans rfl) (by first | (go_simp; done) | (go_simp; rfl) | (simp [execOp, Act.eval, go_sem, *]; done) | (simp [execOp, Act.eval, go_sem, *]; rfl)) rfl (Pu.refl _)
        · intro a' w' hs hp he
          try simp [Is, Region.binds] at he
          first | exact op_skip rfl ((wanted_some rfl rfl (by first | (simp [he]; done) | (simp [he]; rfl))).trans rfl) rfl | exact op_val rfl ((wanted_some rfl rfl (by first | (simp [he]; done) | (simp [he]; rfl))).trans rfl) (by first | (go_simp; done) | (go_simp; rfl) | (simp [execOp, Act.eval, go_sem, *]; done) | (simp [execOp, Act.eval, go_sem, *]; rfl)) rfl (Pu.refl _)
        · intro a' w' hs hp he
          try simp [Is, Region.binds] at he
          obtain ⟨c1, c2, c3, c4, c5, c6⟩ := HCL.out _ hp; exact op_val rfl ((wanted_some rfl rfl (by first | (simp [he]; done) | (simp [he]; rfl))).trans rfl) (by first | (go_simp; done) | (go_simp; rfl)) rfl (Pu.refl _)
        · intro a' w' hs hp he
          have e3 := hs 3 (by kernel_rfl)
          try simp [Is, Region.binds] at he
          obtain ⟨c1, c2, c3, c4, c5, c6⟩ := HCL.out _ hp; exact op_val rfl ((wanted_some rfl rfl (by first | (simp [he]; done) | (simp [he]; rfl))).trans rfl) (by first | (go_simp; done) | (go_simp; rfl)) rfl (Pu.refl _)
        · intro a' w' hs hp he
          try simp [Is, Region.binds] at he
          first | exact op_skip rfl ((wanted_some rfl rfl (by first | (simp [he]; done) | (simp [he]; rfl))).trans rfl) rfl | exact op_val rfl ((wanted_some rfl rfl (by first | (simp [he]; done) | (simp [he]; rfl))).trans rfl) (by first | (go_simp; done) | (go_simp; rfl) | (simp [execOp, Act.eval, go_sem, *]; done) | (simp [execOp, Act.eval, go_sem, *]; rfl)) rfl (Pu.refl _)
        · intro a' w' hs hp he
          try simp [Is, Region.binds] at he
          first | exact op_skip rfl ((wanted_some rfl rfl (by first | (simp [he]; done) | (simp [he]; rfl))).trans rfl) rfl | exact op_val rfl ((wanted_some rfl rfl (by first | (simp [he]; done) | (simp [he]; rfl))).trans rfl) (by first | (go_simp; done) | (go_simp; rfl) | (simp [execOp, Act.eval, go_sem, *]; done) | (simp [execOp, Act.eval, go_sem, *]; rfl)) rfl (Pu.refl _)
        · intro a' w' hs hp he
          try simp [Is, Region.binds] at he
          obtain ⟨c1, c2, c3, c4, c5, c6⟩ := HCL.out _ hp; exact op_val rfl ((wanted_some rfl rfl (by first | (simp [he]; done) | (simp [he]; rfl))).trans rfl) (by first | (go_simp; done) | (go_simp; rfl)) rfl (Pu.refl _)
        · intro a' w' hs hp he
          have e2 := hs 2 (by kernel_rfl)
          try simp [Is, Region.binds] at he
          first | exact op_skip rfl ((wanted_some rfl rfl (by first | (simp [he]; done) | (simp [he]; rfl))).trans rfl) rfl | exact op_val rfl ((wanted_some rfl rfl (by first | (simp [he]; done) | (simp [he]; rfl))).trans rfl) (by first | (go_simp; done) | (go_simp; rfl) | (simp [execOp, Act.eval, go_sem, *]; done) | (simp [execOp, Act.eval, go_sem, *]; rfl)) rfl (Pu.refl _)
        · intro a' w' hs hp he
          try simp [Is, Region.binds] at he
          exact op_callP ((HLO.out _ hp).mono (by rintro e w2 ⟨rfl, rfl⟩; exact ⟨rfl, Pu.refl _⟩)) rfl ((wanted_some rfl rfl (by first | (simp [he]; done) | (simp [he]; rfl))).trans rfl) (by first | (go_simp; done) | (go_simp; rfl)) (fun _ => rfl)
        · intro a' w' hs hp he
          try simp [Is, Region.binds] at he
          exact op_val rfl (wanted_none rfl) (by first | (go_simp; done) | (go_simp; rfl) | (simp [execOp, Act.eval, go_sem, *]; done) | (simp [execOp, Act.eval, go_sem, *]; rfl)) rfl (Pu.refl _)
        · intro a' w' hs hp he
          try simp [Is, Region.binds] at he
          exact op_val rfl (wanted_none rfl) (by first | (go_simp; done) | (go_simp; rfl) | (simp [execOp, Act.eval, go_sem, *]; done) | (simp [execOp, Act.eval, go_sem, *]; rfl)) rfl (Pu.refl _)
      case hend =>
        intro a' w' hdef hsz hs hp hall
        obtain ⟨r0, r1, r2, r3, r4, r5, r6, r7, r8, r9, r10, r11, r12, r13, r14, -⟩ := hall
        have hA := agree_done (agree_step (agree_step (agree_step (agree_step (agree_step (agree_step (agree_step (agree_step (agree_step (agree_step (agree_step (agree_step (agree_step (agree_step (agree_step (agree_init [35, 36, 37, 38, 39, 40, 41, 42, 43, 44, 45, 46, 47, 48, 34] hsz hs (by kernel_rfl)) r0) r1) r2) r3) r4) r5) r6) r7) r8) r9) r10) r11) r12) r13) r14)
        have ha := act_of hA hdef
        rw [ha]
        clear ha hA hs hsz hdef r0 r1 r2 r3 r4 r5 r6 r7 r8 r9 r10 r11 r12 r13 r14 
        (try simp only [List.setIfInBounds_toArray])
        (try dsimp only [List.set_cons_zero, List.set_cons_succ])
        (try simp only [Exit.then])
        replace pw := pw.pu hp
        clear hp HCL HLO
        rename World => w5
        simp only [Option.isSome_some, if_true]
        go_wp2_with fail
        have HCL7 := Lib.hid (fun w2 (hp : Pu w5 w2) => (pw.pu hp).cells)
        apply region_pu (Φs := (Is _ :: Is _ :: Is _ :: Is _ :: Is _ :: Is _ :: Is _ :: Is _ :: Is _ :: Is _ :: Is _ :: [])) (hm := by kernel_rfl) (hE := by kernel_rfl) (hD := by kernel_rfl) (hsize := by kernel_rfl)
        case hop =>
          refine ⟨?_, ?_, ?_, ?_, ?_, ?_, ?_, ?_, ?_, ?_, ?_, trivial⟩
          · intro a' w' hs hp he
            have e8 := hs 8 (by kernel_rfl)
            try simp [Is, Region.binds] at he
            exact op_val rfl (wanted_none rfl) (by first | (go_simp; done) | (go_simp; rfl) | (simp [execOp, Act.eval, go_sem, *]; done) | (simp [execOp, Act.eval, go_sem, *]; rfl)) rfl (Pu.refl _)
          · intro a' w' hs hp he
            try simp [Is, Region.binds] at he
            obtain ⟨c1, c2, c3, c4, c5, c6⟩ := HCL7.out _ hp; exact op_val rfl (wanted_none rfl) (by first | (go_simp; done) | (go_simp; rfl)) rfl (Pu.refl _)
          · intro a' w' hs hp he
            have e10 := hs 10 (by kernel_rfl)
            try simp [Is, Region.binds] at he
            obtain ⟨c1, c2, c3, c4, c5, c6⟩ := HCL7.out _ hp; exact op_val rfl (wanted_none rfl) (by first | (go_simp; done) | (go_simp; rfl)) rfl (Pu.refl _)
          · intro a' w' hs hp he
            have e3 := hs 3 (by kernel_rfl)
            try simp [Is, Region.binds] at he
            obtain ⟨c1, c2, c3, c4, c5, c6⟩ := HCL7.out _ hp; exact op_val rfl (wanted_none rfl) (by first | (go_simp; done) | (go_simp; rfl)) rfl (Pu.refl _)
          · intro a' w' hs hp he
            try simp [Is, Region.binds] at he
            exact op_val rfl (wanted_none rfl) (by first | (go_simp; done) | (go_simp; rfl) | (simp [execOp, Act.eval, go_sem, *]; done) | (simp [execOp, Act.eval, go_sem, *]; rfl)) rfl (Pu.refl _)
          · intro a' w' hs hp he
            try simp [Is, Region.binds] at he
            exact op_val rfl (wanted_none rfl) (by first | (go_simp; done) | (go_simp; rfl) | (simp [execOp, Act.eval, go_sem, *]; done) | (simp [execOp, Act.eval, go_sem, *]; rfl)) rfl (Pu.refl _)
          · intro a' w' hs hp he
            try simp [Is, Region.binds] at he
            obtain ⟨c1, c2, c3, c4, c5, c6⟩ := HCL7.out _ hp; exact op_val rfl (wanted_none rfl) (by first | (go_simp; done) | (go_simp; rfl)) rfl (Pu.refl _)
          · intro a' w' hs hp he
            try simp [Is, Region.binds] at he
            exact op_callP (HPR.out _) rfl (wanted_none rfl) (by first | (go_simp; done) | (go_simp; rfl)) (fun _ => rfl)
          · intro a' w' hs hp he
            try simp [Is, Region.binds] at he
            exact op_callP (HSA.out _) rfl (wanted_none rfl) (by first | (go_simp; done) | (go_simp; rfl)) (fun _ => rfl)
          · intro a' w' hs hp he
            try simp [Is, Region.binds] at he
            exact op_val rfl (wanted_none rfl) (by first | (go_simp; done) | (go_simp; rfl) | (simp [execOp, Act.eval, go_sem, *]; done) | (simp [execOp, Act.eval, go_sem, *]; rfl)) rfl (Pu.refl _)
          · intro a' w' hs hp he
            try simp [Is, Region.binds] at he
            exact op_val rfl (wanted_none rfl) (by first | (go_simp; done) | (go_simp; rfl) | (simp [execOp, Act.eval, go_sem, *]; done) | (simp [execOp, Act.eval, go_sem, *]; rfl)) rfl (Pu.refl _)
        case hend =>
          intro a' w' hdef hsz hs hp hall
          obtain ⟨r0, r1, r2, r3, r4, r5, r6, r7, r8, r9, r10, -⟩ := hall
          have hA := agree_done (agree_step (agree_step (agree_step (agree_step (agree_step (agree_step (agree_step (agree_step (agree_step (agree_step (agree_step (agree_init [50, 51, 52, 53, 54, 55, 56, 57, 58, 59, 49] hsz hs (by kernel_rfl)) r0) r1) r2) r3) r4) r5) r6) r7) r8) r9) r10)
          have ha := act_of hA hdef
          rw [ha]
          clear ha hA hs hsz hdef r0 r1 r2 r3 r4 r5 r6 r7 r8 r9 r10 
          (try simp only [List.setIfInBounds_toArray])
          (try dsimp only [List.set_cons_zero, List.set_cons_succ])
          (try simp only [Exit.then])
          replace pw := pw.pu hp
          rename World => w6
          have HCL := Lib.hid (fun w2 (hp : Pu w6 w2) => (pw.pu hp).cells)
          clear hp HCL7
          simp only [Option.isSome_some, if_true]
          go_wp2_with fail
          apply region_writer (g := w6.heap.size) (n := 9) (hn := by kernel_rfl) (hlast := rfl) (hU := by kernel_rfl) (Φ1 := ([])) (Φm := Is _) (Φ2 := (Is _ :: Is _ :: Is _ :: Is _ :: Is _ :: Is _ :: Is _ :: Is _ :: [])) (hm := by kernel_rfl) (hE := by kernel_rfl) (hD := by kernel_rfl) (hsize := by kernel_rfl)
          case hop =>
            refine ⟨?_, ?_, ?_, ?_, ?_, ?_, ?_, ?_, ?_, trivial⟩
            · intro a' w' hs hp he
              have hp : Pu _ w' := hp
              have e3 := hs 3 (by kernel_rfl)
              try simp [Is, Region.binds] at he
              obtain ⟨c1, c2, c3, c4, c5, c6⟩ := HCL.out _ hp; exact op_valB rfl (wanted_none rfl) (by first | (go_simp; done) | (go_simp; rfl)) rfl (But.pu (Pu.refl _))
            · intro a' w' hs hp he
              have hp : But w6.heap.size _ w' := hp
              replace hp := But.toPu hp (Nat.le_refl _)
              try simp [Is, Region.binds] at he
              exact op_val rfl (wanted_none rfl) (by first | (go_simp; done) | (go_simp; rfl) | (simp [execOp, Act.eval, go_sem, *]; done) | (simp [execOp, Act.eval, go_sem, *]; rfl)) rfl (Pu.refl _)
            · intro a' w' hs hp he
              have hp : But w6.heap.size _ w' := hp
              replace hp := But.toPu hp (Nat.le_refl _)
              try simp [Is, Region.binds] at he
              exact op_val rfl (wanted_none rfl) (by first | (go_simp; done) | (go_simp; rfl) | (simp [execOp, Act.eval, go_sem, *]; done) | (simp [execOp, Act.eval, go_sem, *]; rfl)) rfl (Pu.refl _)
            · intro a' w' hs hp he
              have hp : But w6.heap.size _ w' := hp
              replace hp := But.toPu hp (Nat.le_refl _)
              try simp [Is, Region.binds] at he
              obtain ⟨c1, c2, c3, c4, c5, c6⟩ := HCL.out _ hp; exact op_val rfl (wanted_none rfl) (by first | (go_simp; done) | (go_simp; rfl)) rfl (Pu.refl _)
            · intro a' w' hs hp he
              have hp : But w6.heap.size _ w' := hp
              replace hp := But.toPu hp (Nat.le_refl _)
              have e3 := hs 3 (by kernel_rfl)
              try simp [Is, Region.binds] at he
              obtain ⟨c1, c2, c3, c4, c5, c6⟩ := HCL.out _ hp; exact op_val rfl (wanted_none rfl) (by first | (go_simp; done) | (go_simp; rfl)) rfl (Pu.refl _)
            · intro a' w' hs hp he
              have hp : But w6.heap.size _ w' := hp
              replace hp := But.toPu hp (Nat.le_refl _)
              try simp [Is, Region.binds] at he
              exact op_val rfl (wanted_none rfl) (by first | (go_simp; done) | (go_simp; rfl) | (simp [execOp, Act.eval, go_sem, *]; done) | (simp [execOp, Act.eval, go_sem, *]; rfl)) rfl (Pu.refl _)
            · intro a' w' hs hp he
              have hp : But w6.heap.size _ w' := hp
              replace hp := But.toPu hp (Nat.le_refl _)
              try simp [Is, Region.binds] at he
              exact op_val rfl (wanted_none rfl) (by first | (go_simp; done) | (go_simp; rfl) | (simp [execOp, Act.eval, go_sem, *]; done) | (simp [execOp, Act.eval, go_sem, *]; rfl)) rfl (Pu.refl _)
            · intro a' w' hs hp he
              have hp : But w6.heap.size _ w' := hp
              replace hp := But.toPu hp (Nat.le_refl _)
              try simp [Is, Region.binds] at he
              obtain ⟨c1, c2, c3, c4, c5, c6⟩ := HCL.out _ hp; exact op_val rfl (wanted_none rfl) (by first | (go_simp; done) | (go_simp; rfl)) rfl (Pu.refl _)
            · intro a' w' hs hp he
              have hp : But w6.heap.size _ w' := hp
              replace hp := But.toPu hp (Nat.le_refl _)
              have e2 := hs 2 (by kernel_rfl)
              try simp [Is, Region.binds] at he
              exact op_val rfl (wanted_none rfl) (by first | (go_simp; done) | (go_simp; rfl) | (simp [execOp, Act.eval, go_sem, *]; done) | (simp [execOp, Act.eval, go_sem, *]; rfl)) rfl (Pu.refl _)
          case hend =>
            intro a' w' hdef hsz hs hp hall
            replace hp := But.toPu hp (Nat.le_refl _)
            obtain ⟨r0, r1, r2, r3, r4, r5, r6, r7, r8, -⟩ := hall
            have hA := agree_done (agree_step (agree_step (agree_step (agree_step (agree_step (agree_step (agree_step (agree_step (agree_step (agree_initL [60, 61, 62, 63, 64, 65, 66, 67, 68] hsz hs (by kernel_rfl)) r0) r1) r2) r3) r4) r5) r6) r7) r8)
            have ha := act_of hA hdef
            rw [ha]
            clear ha hA hs hsz hdef r0 r1 r2 r3 r4 r5 r6 r7 r8 
            (try simp only [List.setIfInBounds_toArray])
            (try dsimp only [List.set_cons_zero, List.set_cons_succ])
            (try simp only [Exit.then])
            refine op_callK rfl (wanted_none rfl) (by first | (go_simp; done) | (go_simp; rfl)) ((failW (pw.pu hp).u s.user hul now n1 n2).mono ?_); rintro e w7 ⟨rfl, hu7, hc7⟩; refine ⟨_, rfl, ?_⟩
            (try simp only [Exit.inBlock, Exit.then])
            have pw7 := (pw.pu hp).users hu7 hc7
            go_wp2_with fail
            go_ret2
            exact ⟨rfl, pw7.h, pw7.u, pw7.cg⟩
end Go.Proofs.YtlbdbmnkjljohaaGreat
