/- Chapter 16: ShakeFails. -/
import Derived.Test.YtlbdbmnkjljohaaGreatT17
import Derived.Test.YtlbdbmnkjljohaaGreatFill
import Derived.Test.YtlbdbmnkjljohaaGreatBools
set_option linter.unusedSimpArgs false
set_option linter.unusedVariables false
namespace Go.Proofs.YtlbdbmnkjljohaaGreat
open Go.RowKit Go.Esc
theorem got_lockedF (nh : Bs) (l : List UserS) (name papers x sec : Bs) (now : Int) (hx : x.length = 32) (h1 : secV l name = some sec) (h2 : lockV l name now = true) : gotR nh l (hst1 name papers) (3 :: x) now = ⟨[], 6, ⟨2, true, name, papers, false, [], []⟩, l⟩ := by
  have hp : provR l { hst1 name papers with got := (hst1 name papers).got + 1 } (3 :: x) now = ⟨[], 6, ⟨2, false, name, papers, false, [], []⟩, l⟩ := by
    unfold provR
    rw [fix3 _ hx]
    simp only [hst1]
    rw [h1]
    simp [h2]
  unfold gotR
  rw [if_neg (by simp [hst1]), if_neg (by simp [hst1]), hp]
  rfl
theorem got_wrong (nh : Bs) (l : List UserS) (name papers x sec : Bs) (now : Int) (hx : x.length = 32) (h1 : secV l name = some sec) (h2 : lockV l name now = false) (hne : x ≠ proofL sec papers) : gotR nh l (hst1 name papers) (3 :: x) now = ⟨[], 3, ⟨2, true, name, papers, false, [], []⟩, modN l name (failS now)⟩ := by
  have hp : provR l { hst1 name papers with got := (hst1 name papers).got + 1 } (3 :: x) now = ⟨[], 3, ⟨2, false, name, papers, false, [], []⟩, modN l name (failS now)⟩ := by
    unfold provR
    rw [fix3 _ hx]
    simp only [hst1]
    rw [h1]
    simp [h2, hne]
  unfold gotR
  rw [if_neg (by simp [hst1]), if_neg (by simp [hst1]), hp]
  rfl
theorem turned_len (p : Bs) (h : p.length = 32) : (p.take 31 ++ [p.getD 31 0 ^^^ 1]).length = 32 := by simp; omega
theorem turned_ne (p : Bs) (h : p.length = 32) : p.take 31 ++ [p.getD 31 0 ^^^ 1] ≠ p := fun e => by
  have h2 : (p.take 31).length = 31 := by simp; omega
  have e2 : p = p.take 31 ++ p.drop 31 := (List.take_append_drop 31 p).symm
  have e3 : [p.getD 31 0 ^^^ 1] = p.drop 31 := List.append_cancel_left (e.trans e2)
  have e4 : p.drop 31 = [p.getD 31 0] := by
    rw [List.drop_eq_getElem_cons (by omega : 31 < p.length), List.drop_eq_nil_of_le (by omega), List.getD_eq_getElem?_getD, List.getElem?_eq_getElem (by omega)]
    rfl
  rw [e4] at e3
  have e5 : p.getD 31 0 ^^^ 1 = p.getD 31 0 := by simpa using e3
  have h0 : p.getD 31 0 ^^^ (p.getD 31 0 ^^^ 1) = p.getD 31 0 ^^^ p.getD 31 0 := by rw [e5]
  rw [← UInt8.xor_assoc, UInt8.xor_self, UInt8.zero_xor] at h0
  exact absurd h0 (by decide)
theorem turned_eq (p : Bs) (h : p.length = 32) : (3 :: p).take 32 ++ [(3 :: p).getD 32 0 ^^^ 1] = 3 :: (p.take 31 ++ [p.getD 31 0 ^^^ 1]) := rfl
/-- The user, after some failures; locked out or not. -/
def failL (f : Nat) (lk : Bool) : List UserS := [⟨annW, secS, f, lk, if lk then 25 else 0⟩]
theorem fail_pos (f : Nat) (lk : Bool) : posN (failL f lk) annW = some 0 := by unfold failL posN; simp
theorem fail_sec (f : Nat) (lk : Bool) : secV (failL f lk) annW = some secS := by unfold secV; rw [fail_pos]; rfl
theorem fail_lock (f : Nat) (lk : Bool) : lockV (failL f lk) annW 5 = lk := by unfold lockV; rw [fail_pos]; cases lk <;> rfl
theorem fail_fails (f : Nat) (lk : Bool) : failsV (failL f lk) annW = f := by unfold failsV; rw [fail_pos]; rfl
theorem fail_good (f : Nat) : modN (failL f false) annW goodS = failL 0 false := by unfold modN modU; rw [fail_pos]; rfl
theorem fail_step (f : Nat) (h : f < 3) : modN (failL f false) annW (failS 5) = if f + 1 = 3 then failL 0 true else failL (f+1) false := by
  unfold modN modU
  rw [fail_pos]
  match f, h with
  | 0, _ => rfl
  | 1, _ => rfl
  | 2, _ => rfl
theorem fail_len (f : Nat) (lk : Bool) : ∀ u ∈ failL f lk, u.secret.length = 32 := by
  intro u hu
  unfold failL at hu
  simp at hu
  subst hu
  show secS.length = 32
  decide +kernel
theorem run_str_h {P : Program} (t : TypeId) (ht : P.underlying t = some .string) (b : Bs) (j : Nat) (hj : j ≤ b.length) (w : World) :
    (Instr.slice t (S b) none (some (.int .i64 (j : Int))) none).run P w = .ok (S (b.take j)) w := by
  simp [Instr.slice, run_underlying ht, Instr.sliceBounds, run_sliceBound, S, bs_size, bs_extract, hj]
set_option maxRecDepth 100000 in
set_option maxHeartbeats 3200000 in
theorem shakeFails_walk {w : World} (a : Option Addr) (len cap : Nat) (B : Nat → Bool) (hz : IsBools w a len cap B) :
    Calls Tryz.prog 11 #[.slice a len cap] w fun e w' => e = .returned (.bool true) ∧ Pu w w' := by
  obtain ⟨hL, hlm⟩ := hz.bls
  clear hz
  by_cases g1 : 12 < len
  · have q1 : (12 : Int) < len := by omega
    go_enter Tryz.func11, Tryz.ntmps11
    go_wp2_with (go_at_call 12; refine (alive16 _).mono ?_; rintro e w1 ⟨rfl, hp1⟩)
    go_ret
    exact ⟨rfl, hp1⟩
  have q1 : ¬ (12 : Int) < len := by omega
  have hln := hL.none
  have HL := Lib.hid hL
  have hi2 : (Tryz.prog.info? 23).map (·.size) = some 2 := by kernel_rfl
  have hF1 := fun w => fillW [115] 32 (by decide) (by decide) w
  change ∀ w, Calls Tryz.prog 16 #[S [115], .int .i64 32] w fun e w' => e = .returned (S secS) ∧ w' = w at hF1
  have hsl : secS.length = 32 := by decide +kernel
  have hnh : nonH.length = 16 := by decide
  have hUs := fun w => newOne annW secS ann_user w
  have HF1 := Lib.hid hF1
  have HUS := Lib.hid hUs
  have k115 : (ByteArray.mk #[115]) = bs [115] := rfl
  have kann : (ByteArray.mk #[97, 110, 110]) = bs annW := rfl
  have kng : (ByteArray.mk #[48, 49, 50, 51, 52, 53, 54, 55, 56, 57, 97, 98, 99, 100, 101, 102]) = bs nonG := rfl
  have knh : (ByteArray.mk #[102, 101, 100, 99, 98, 97, 57, 56, 55, 54, 53, 52, 51, 50, 49, 48]) = bs nonH := rfl
  clear hL hF1 hUs
  go_enter Tryz.func11, Tryz.ntmps11
  go_wp2_with (first
    | (go_at_call 12; refine (alive16 _).mono ?_; rintro e w1 ⟨rfl, hp1⟩)
    | (go_at_call 16; refine (HF1.out _).mono ?_; rintro e w1 ⟨rfl, rfl⟩)
    | (refine wpList_store_part rfl 23 (.tmp 3) (.tmp 27) rfl w1.heap.size 0 [S annW, S secS] (by rfl) (by rfl) (Row.newAt w1 w1.heap.size _ _ rfl rfl) hi2 (by simp) (by simp [Value.oneCell']) ?_; intro wM hrM hchM
       have hpM : Pu w1 wM := hchM.below ((Pu.refl w1).alloc _) (Nat.le_refl _)
       rw [splice_all (by rfl)] at hrM
       clear hchM)
    | (refine wpList_load_row rfl 23 (.tmp 3) rfl w1.heap.size [S annW, S secS] (by rfl) hrM Tryz.underlying23 rfl hi2 ?_)
    | (go_at_call 28; refine (HUS.out _).mono ?_; rintro e w2 ⟨ub, G, rfl, hu2, hlo, hp2⟩))
  go_loopw [36, 6, 7, 9, 10, 11, 12, 13, 14, 15, 16, 17, 88, 92] (fun x xf xl _ _ _ _ _ _ _ _ _ _ _ wr => ∃ (k f : Nat) (lk : Bool), k ≤ len ∧ f < 3 ∧ x = .int .i64 (k : Int) ∧ xf = .int .i64 (f : Int) ∧ xl = .bool lk ∧ (lk = true → f = 0) ∧ UsersAt G wr ub (failL f lk) ∧ Pu wM wr) (fun x _ _ _ _ _ _ _ _ _ _ _ _ _ _ => len - (intOf x).toNat)
  case atStart => exact ⟨0, 0, false, by omega, by omega, rfl, rfl, rfl, fun _ => rfl, hu2, hp2⟩
  case round =>
    clear hu2 hp2
    obtain ⟨k, f, lk, hk, hf3, rfl, rfl, rfl, hlf, hu, hpr⟩ := hrel
    by_cases hlt : k < len
    · rcases a with _ | x
      · have := hln rfl; omega
      have hc : wr.cell? (x.add k) = some (.bool (B k)) := ((HL.out.keep (Pu.trans hp1 (Pu.trans hpM hpr))).cell x rfl k hlt).1
      obtain ⟨rt, hrt⟩ : ∃ b, b = B k := ⟨_, rfl⟩
      rw [← hrt] at hc
      have hi1 : (k : Int) < len := by omega
      have hi0 : (0 : Int) ≤ k := by omega
      have hrM2 := hrM.pu hpr
      have hNg := fun w => newGuest annW secS nonG ann_guest w
      have hNh := fun ub w => newHost ub nonH hnh w
      have e1 := got_hello nonH (failL f lk) annW nonG 5 ann_guest.hello
      have e2 := chal_ok secS (helloL annW nonG) nonH hnh
      have hhl : (helloL annW nonG).length = 21 := by decide +kernel
      have hch : (chalL nonH).length = 17 := by decide
      obtain ⟨pap, hpap⟩ : ∃ x, x = helloL annW nonG ++ chalL nonH := ⟨_, rfl⟩
      have hpl : pap.length = 38 := by rw [hpap, List.length_append, hhl, hch]
      rw [← hpap] at e1 e2
      have hpf := proofL_length secS pap
      have eL := fun (y : Bs) (hy : y.length = 32) (h : lk = true) => got_lockedF nonH (failL f lk) annW pap y secS 5 hy (fail_sec f lk) (by rw [fail_lock]; exact h)
      have eP := fun (h : lk = false) => got_proof nonH (failL f lk) annW pap secS 5 (fail_sec f lk) (by rw [fail_lock]; exact h)
      have eW := fun (h : lk = false) => got_wrong nonH (failL f lk) annW pap _ secS 5 (turned_len _ hpf) (fail_sec f lk) (by rw [fail_lock]; exact h) (turned_ne _ hpf)
      have hte := turned_eq _ hpf
      have htl := turned_len _ hpf
      have htel : ((3 :: proofL secS pap).take 32 ++ [(3 :: proofL secS pap).getD 32 0 ^^^ 1]).length = 33 := by rw [hte, List.length_cons, htl]
      have hprl : (3 :: proofL secS pap).length = 33 := by simp [hpf]
      have hget : (3 :: proofL secS pap).getD 32 0 = (3 :: proofL secS pap)[32]'(by omega) := by rw [List.getD_eq_getElem?_getD, List.getElem?_eq_getElem (by omega)]; rfl
      rw [← hte] at eW
      have eL1 := eL _ hpf
      have eL2 := eL _ htl
      rw [← hte] at eL2
      clear eL hte htl hpf
      obtain ⟨pr, hpr9⟩ : ∃ x, x = 3 :: proofL secS pap := ⟨_, rfl⟩
      rw [← hpr9] at e2 eP eW eL1 eL2 hprl htel
      have hget' : pr.getD 32 0 = pr[32]'(by omega) := by rw [List.getD_eq_getElem?_getD, List.getElem?_eq_getElem (by omega)]; rfl
      clear hget
      rw [hget'] at eW eL2 htel
      obtain ⟨xb, hxb⟩ : ∃ c, c = pr[32]'(by omega) := ⟨_, rfl⟩
      have hx32 : pr[32]'(by omega) = xb := hxb.symm
      rw [← hxb] at eW eL2 htel
      obtain ⟨yb, hyb⟩ : ∃ c, c = xb ^^^ 1 := ⟨_, rfl⟩
      have hxv : Go.bits .xor .u8 (xb.toNat : Int) 1 = (yb.toNat : Int) := by have := xor_val xb 1; rw [hyb]; exact this
      rw [← hyb] at eW eL2 htel
      obtain ⟨p2, hp2e⟩ : ∃ z, z = pr.take 32 ++ [yb] := ⟨_, rfl⟩
      rw [← hp2e] at eW eL2 htel
      obtain ⟨hel, hhel⟩ : ∃ x, x = helloL annW nonG := ⟨_, rfl⟩
      obtain ⟨c, hce⟩ : ∃ x, x = chalL nonH := ⟨_, rfl⟩
      rw [← hce] at e1 e2 hch
      rw [← hhel] at e1 e2 hhl
      have hs32 : ∀ w, (Instr.slice 9 (S pr) none (some (.int .i64 32)) none).run Tryz.prog w = .ok (S (pr.take 32)) w := fun w => run_str_h 9 Tryz.underlying9 pr 32 (by omega) w
      have k32 : (32 : Int) < pr.length := by omega
      have k33 : (pr.length : Int) = 33 := by omega
      have E1 := Lib.hid e1
      have E2 := Lib.hid e2
      have HNG := Lib.hid hNg
      have HNH := Lib.hid hNh
      have HHEL := Lib.hid hhel
      have HPL := Lib.hid hpl
      have HP2 := Lib.hid hp2e
      have HLEN := Lib.hid (fail_len f lk)
      have HTEL := Lib.hid htel
      have HRT := Lib.hid hrt
      have T1 := Lib.hid True.intro
      clear e1 e2 hNg hNh hhel hpl hp2e hpap hpr9 hxb hyb hce hget' htel hrt
      cases rt with
      | true =>
        cases lk with
        | true =>
          have E3 := Lib.hid (eL1 rfl)
          obtain rfl := hlf rfl
          clear eL1 eL2 eP eW
          go_wp2_with (first
            | (refine wpList_load_row rfl 23 (.tmp 3) rfl w1.heap.size [S annW, S secS] (by rfl) hrM2 Tryz.underlying23 rfl hi2 ?_)
            | (go_at_call 13; refine (HNG.out _).mono ?_; rintro e w3 ⟨gb, rfl, hg3, hgl, hp3⟩)
            | (go_at_call 29; refine (HNH.out ub _).mono ?_; rintro e w4 ⟨hb, rfl, hh4, hhl4, hp4⟩
               have t4 := Trio.start hu hpr hlo hg3 hgl hp3 hh4 hhl4 hp4
               clear hg3 hh4 hp3 hp4)
            | (go_at_call 24; refine (helloG t4.g).mono ?_; rw [← HHEL.out]; rintro e w5 ⟨rfl, rfl⟩)
            | (go_at_call 30; clear T1; refine (trioGot t4 hnh HLEN.out (by decide) (by decide) (by decide) hel (by omega) 5 (by decide) (by decide)).mono ?_; rw [E1.out]; rintro e w6 ⟨rfl, t6⟩)
            | (go_at_call 18; refine (trioChal t6 (by decide) ann_guest c (by omega)).mono ?_; rw [← HHEL.out, E2.out]; rintro e w7 ⟨rfl, t7⟩)
            | (go_at_call 30; refine (trioGot t7 hnh HLEN.out (by show (3 : Nat) ≤ 1000000; omega) (by show List.length pap ≤ 10000; rw [HPL.out]; omega) (by show (1 : Nat) ≤ 1000; omega) pr (by omega) 5 (by decide) (by decide)).mono ?_; rw [E3.out]; rintro e w8 ⟨rfl, t8⟩)
            | (go_at_call 41; refine (failsW t8.u annW (by decide)).mono ?_; rw [fail_fails]; rintro e w9 ⟨rfl, rfl⟩)
            | (go_at_call 42; refine (lockedW t8.u annW (by decide) 5).mono ?_; rw [fail_lock]; rintro e w9 ⟨rfl, rfl⟩))
          go_roundw
          case rel => exact ⟨k + 1, 0, true, by omega, by omega, by go_num, rfl, rfl, by first | (intro h; cases h; done) | (intro _; rfl), t8.u, t8.since⟩
          case measure => simp [intOf]; omega
        | false =>
          have E3 := Lib.hid (eP rfl)
          have HGD := Lib.hid (fail_good f)
          clear eL1 eL2 eP eW
          go_wp2_with (first
            | (refine wpList_load_row rfl 23 (.tmp 3) rfl w1.heap.size [S annW, S secS] (by rfl) hrM2 Tryz.underlying23 rfl hi2 ?_)
            | (go_at_call 13; refine (HNG.out _).mono ?_; rintro e w3 ⟨gb, rfl, hg3, hgl, hp3⟩)
            | (go_at_call 29; refine (HNH.out ub _).mono ?_; rintro e w4 ⟨hb, rfl, hh4, hhl4, hp4⟩
               have t4 := Trio.start hu hpr hlo hg3 hgl hp3 hh4 hhl4 hp4
               clear hg3 hh4 hp3 hp4)
            | (go_at_call 24; refine (helloG t4.g).mono ?_; rw [← HHEL.out]; rintro e w5 ⟨rfl, rfl⟩)
            | (go_at_call 30; clear T1; refine (trioGot t4 hnh HLEN.out (by decide) (by decide) (by decide) hel (by omega) 5 (by decide) (by decide)).mono ?_; rw [E1.out]; rintro e w6 ⟨rfl, t6⟩)
            | (go_at_call 18; refine (trioChal t6 (by decide) ann_guest c (by omega)).mono ?_; rw [← HHEL.out, E2.out]; rintro e w7 ⟨rfl, t7⟩)
            | (go_at_call 30; refine (trioGot t7 hnh HLEN.out (by show (3 : Nat) ≤ 1000000; omega) (by show List.length pap ≤ 10000; rw [HPL.out]; omega) (by show (1 : Nat) ≤ 1000; omega) pr (by omega) 5 (by decide) (by decide)).mono ?_; rw [E3.out, HGD.out]; rintro e w8 ⟨rfl, t8⟩)
            | (go_at_call 41; refine (failsW t8.u annW (by decide)).mono ?_; rw [fail_fails]; rintro e w9 ⟨rfl, rfl⟩)
            | (go_at_call 42; refine (lockedW t8.u annW (by decide) 5).mono ?_; rw [fail_lock]; rintro e w9 ⟨rfl, rfl⟩))
          go_roundw
          case rel => exact ⟨k + 1, 0, false, by omega, by omega, by go_num, rfl, rfl, by first | (intro h; cases h; done) | (intro _; rfl), t8.u, t8.since⟩
          case measure => simp [intOf]; omega
      | false =>
        cases lk with
        | true =>
          have E3 := Lib.hid (eL2 rfl)
          obtain rfl := hlf rfl
          clear eL1 eL2 eP eW
          go_wp2_with (first
            | (refine wpList_load_row rfl 23 (.tmp 3) rfl w1.heap.size [S annW, S secS] (by rfl) hrM2 Tryz.underlying23 rfl hi2 ?_)
            | (go_at_call 13; refine (HNG.out _).mono ?_; rintro e w3 ⟨gb, rfl, hg3, hgl, hp3⟩)
            | (go_at_call 29; refine (HNH.out ub _).mono ?_; rintro e w4 ⟨hb, rfl, hh4, hhl4, hp4⟩
               have t4 := Trio.start hu hpr hlo hg3 hgl hp3 hh4 hhl4 hp4
               clear hg3 hh4 hp3 hp4)
            | (go_at_call 24; refine (helloG t4.g).mono ?_; rw [← HHEL.out]; rintro e w5 ⟨rfl, rfl⟩)
            | (go_at_call 30; clear T1; refine (trioGot t4 hnh HLEN.out (by decide) (by decide) (by decide) hel (by omega) 5 (by decide) (by decide)).mono ?_; rw [E1.out]; rintro e w6 ⟨rfl, t6⟩)
            | (go_at_call 18; refine (trioChal t6 (by decide) ann_guest c (by omega)).mono ?_; rw [← HHEL.out, E2.out]; rintro e w7 ⟨rfl, t7⟩)
            | fail)
          have hp2' : pr.take 32 ++ [yb] = p2 := HP2.out.symm
          apply region_writer (g := w7.heap.size) (n := 8) (hn := by kernel_rfl) (hlast := rfl) (hU := by kernel_rfl) (Φ1 := (Is _ :: Is _ :: Is _ :: Is _ :: Is _ :: [])) (Φm := IsRow 5 1 (cells [yb])) (Φ2 := (Is _ :: Is _ :: [])) (hm := by kernel_rfl) (hE := by kernel_rfl) (hD := by kernel_rfl) (hsize := by kernel_rfl)
          case hop =>
            refine ⟨?_, ?_, ?_, ?_, ?_, ?_, ?_, ?_, trivial⟩
            · intro a' w' hs hp he
              have hp : But w7.heap.size _ w' := hp
              have e14 := hs 14 (by kernel_rfl)
              try simp [Is, Region.binds] at he
              exact op_val rfl (wanted_none rfl) (by first | (go_simp; done) | (go_simp; rfl) | (simp [execOp, Act.eval, go_sem, *]; done) | (simp [execOp, Act.eval, go_sem, *]; rfl)) rfl (Pu.refl _)
            · intro a' w' hs hp he
              have hp : But w7.heap.size _ w' := hp
              try simp [Is, Region.binds] at he
              exact op_val rfl (wanted_none rfl) (by first | (go_simp; done) | (go_simp; rfl) | (simp [execOp, Act.eval, go_sem, *]; done) | (simp [execOp, Act.eval, go_sem, *]; rfl)) rfl (Pu.refl _)
            · intro a' w' hs hp he
              have hp : But w7.heap.size _ w' := hp
              have e14 := hs 14 (by kernel_rfl)
              try simp [Is, Region.binds] at he
              exact op_val rfl (wanted_none rfl) (by first | (go_simp; done) | (go_simp; rfl) | (simp [execOp, Act.eval, go_sem, *]; done) | (simp [execOp, Act.eval, go_sem, *]; rfl)) rfl (Pu.refl _)
            · intro a' w' hs hp he
              have hp : But w7.heap.size _ w' := hp
              try simp [Is, Region.binds] at he
              exact op_val rfl (wanted_none rfl) (by first | (go_simp; done) | (go_simp; rfl) | (simp [execOp, Act.eval, go_sem, *]; done) | (simp [execOp, Act.eval, go_sem, *]; rfl)) rfl (Pu.refl _)
            · intro a' w' hs hp he
              have hp : But w7.heap.size _ w' := hp
              try simp [Is, Region.binds] at he
              exact op_val rfl (wanted_none rfl) (by first | (go_simp; done) | (go_simp; rfl) | (simp [execOp, Act.eval, go_sem, *]; done) | (simp [execOp, Act.eval, go_sem, *]; rfl)) rfl (Pu.refl _)
            · intro a' w' hs hp he
              have hp : Pu _ w' := hp
              try simp [Is, Region.binds] at he
              refine op_valB rfl (wanted_none rfl) (by go_simp; exact ⟨rfl, rfl⟩) ?_ (But.pu ((Pu.refl _).alloc _)); exact ⟨_, _, rfl, Row.newAt _ _ _ _ rfl rfl⟩
            · intro a' w' hs hp he
              have hp : But w7.heap.size _ w' := hp
              try simp [Is, Region.binds] at he
              obtain ⟨g5, cap5, hv5, hrow5⟩ := he; have hcv := hrow5.conv (P := Tryz.prog) (n := 1) (cap := cap5) 42 9 rfl Tryz.underlying42 Tryz.underlying5 Tryz.underlying9; exact op_val rfl (wanted_none rfl) (by first | (go_simp; done) | (go_simp; rfl)) rfl (Pu.refl _)
            · intro a' w' hs hp he
              have hp : But w7.heap.size _ w' := hp
              try simp [Is, Region.binds] at he
              exact op_val rfl (wanted_none rfl) (by first | (go_simp; done) | (go_simp; rfl) | (simp [execOp, Act.eval, go_sem, *]; done) | (simp [execOp, Act.eval, go_sem, *]; rfl)) rfl (Pu.refl _)
          case hend =>
            intro a' w' hdef hsz hs hp hall
            obtain ⟨r0, r1, r2, r3, r4, r5, r6, r7, -⟩ := hall
            obtain ⟨g5, cap5, rv5, row5⟩ := r5
            have hA := agree_done (agree_step (agree_step (agree_step (agree_step (agree_step (agree_step (agree_step (agree_step (agree_initL [68, 69, 70, 71, 72, 73, 74, 75] hsz hs (by kernel_rfl)) r0) r1) r2) r3) r4) rv5) r6) r7)
            have ha := act_of hA hdef
            rw [ha]
            clear ha hA hs hsz hdef r0 r1 r2 r3 r4 r6 r7 rv5
            (try simp only [List.setIfInBounds_toArray])
            (try dsimp only [List.set_cons_zero, List.set_cons_succ])
            (try simp only [Exit.then])
            refine op_run rfl (wanted_none rfl) (by first | (go_simp; done) | (go_simp; rfl) | (go_simp; exact ⟨rfl, rfl⟩)) ?_
            (try simp only [Exit.inBlock, Exit.then])
            (try simp only [Act.put, List.setIfInBounds_toArray])
            (try dsimp only [List.set_cons_zero, List.set_cons_succ])
            have t7b := t7.pu (But.toPu hp (Nat.le_refl _))
            clear hp
            simp only [Option.isSome_some, if_true]
            go_wp2_with (first
              | (go_at_call 30; refine (trioGot t7b hnh HLEN.out (by show (3 : Nat) ≤ 1000000; omega) (by show List.length pap ≤ 10000; rw [HPL.out]; omega) (by show (1 : Nat) ≤ 1000; omega) p2 (by rw [HTEL.out]; omega) 5 (by decide) (by decide)).mono ?_; rw [E3.out]; rintro e w8 ⟨rfl, t8⟩)
              | (go_at_call 41; refine (failsW t8.u annW (by decide)).mono ?_; rw [fail_fails]; rintro e w9 ⟨rfl, rfl⟩)
              | (go_at_call 42; refine (lockedW t8.u annW (by decide) 5).mono ?_; rw [fail_lock]; rintro e w9 ⟨rfl, rfl⟩))
            go_roundw
            case rel => exact ⟨k + 1, 0, true, by omega, by omega, by go_num, by first | rfl | go_num, rfl, by first | (intro h; cases h; done) | (intro _; rfl), t8.u, t8.since⟩
            case measure => simp [intOf]; omega
        | false =>
          have hst := fail_step f hf3
          rcases (by omega : f = 2 ∨ f < 2) with hf2 | hf2
          · subst hf2
            rw [if_pos rfl] at hst
            have E3 := Lib.hid (eW rfl)
            have HST := Lib.hid hst
            clear eL1 eL2 eP eW hst
            go_wp2_with (first
              | (refine wpList_load_row rfl 23 (.tmp 3) rfl w1.heap.size [S annW, S secS] (by rfl) hrM2 Tryz.underlying23 rfl hi2 ?_)
              | (go_at_call 13; refine (HNG.out _).mono ?_; rintro e w3 ⟨gb, rfl, hg3, hgl, hp3⟩)
              | (go_at_call 29; refine (HNH.out ub _).mono ?_; rintro e w4 ⟨hb, rfl, hh4, hhl4, hp4⟩
                 have t4 := Trio.start hu hpr hlo hg3 hgl hp3 hh4 hhl4 hp4
                 clear hg3 hh4 hp3 hp4)
              | (go_at_call 24; refine (helloG t4.g).mono ?_; rw [← HHEL.out]; rintro e w5 ⟨rfl, rfl⟩)
              | (go_at_call 30; clear T1; refine (trioGot t4 hnh HLEN.out (by decide) (by decide) (by decide) hel (by omega) 5 (by decide) (by decide)).mono ?_; rw [E1.out]; rintro e w6 ⟨rfl, t6⟩)
              | (go_at_call 18; refine (trioChal t6 (by decide) ann_guest c (by omega)).mono ?_; rw [← HHEL.out, E2.out]; rintro e w7 ⟨rfl, t7⟩)
              | fail)
            have hp2' : pr.take 32 ++ [yb] = p2 := HP2.out.symm
            apply region_writer (g := w7.heap.size) (n := 8) (hn := by kernel_rfl) (hlast := rfl) (hU := by kernel_rfl) (Φ1 := (Is _ :: Is _ :: Is _ :: Is _ :: Is _ :: [])) (Φm := IsRow 5 1 (cells [yb])) (Φ2 := (Is _ :: Is _ :: [])) (hm := by kernel_rfl) (hE := by kernel_rfl) (hD := by kernel_rfl) (hsize := by kernel_rfl)
            case hop =>
              refine ⟨?_, ?_, ?_, ?_, ?_, ?_, ?_, ?_, trivial⟩
              · intro a' w' hs hp he
                have hp : But w7.heap.size _ w' := hp
                have e14 := hs 14 (by kernel_rfl)
                try simp [Is, Region.binds] at he
                exact op_val rfl (wanted_none rfl) (by first | (go_simp; done) | (go_simp; rfl) | (simp [execOp, Act.eval, go_sem, *]; done) | (simp [execOp, Act.eval, go_sem, *]; rfl)) rfl (Pu.refl _)
              · intro a' w' hs hp he
                have hp : But w7.heap.size _ w' := hp
                try simp [Is, Region.binds] at he
                exact op_val rfl (wanted_none rfl) (by first | (go_simp; done) | (go_simp; rfl) | (simp [execOp, Act.eval, go_sem, *]; done) | (simp [execOp, Act.eval, go_sem, *]; rfl)) rfl (Pu.refl _)
              · intro a' w' hs hp he
                have hp : But w7.heap.size _ w' := hp
                have e14 := hs 14 (by kernel_rfl)
                try simp [Is, Region.binds] at he
                exact op_val rfl (wanted_none rfl) (by first | (go_simp; done) | (go_simp; rfl) | (simp [execOp, Act.eval, go_sem, *]; done) | (simp [execOp, Act.eval, go_sem, *]; rfl)) rfl (Pu.refl _)
              · intro a' w' hs hp he
                have hp : But w7.heap.size _ w' := hp
                try simp [Is, Region.binds] at he
                exact op_val rfl (wanted_none rfl) (by first | (go_simp; done) | (go_simp; rfl) | (simp [execOp, Act.eval, go_sem, *]; done) | (simp [execOp, Act.eval, go_sem, *]; rfl)) rfl (Pu.refl _)
              · intro a' w' hs hp he
                have hp : But w7.heap.size _ w' := hp
                try simp [Is, Region.binds] at he
                exact op_val rfl (wanted_none rfl) (by first | (go_simp; done) | (go_simp; rfl) | (simp [execOp, Act.eval, go_sem, *]; done) | (simp [execOp, Act.eval, go_sem, *]; rfl)) rfl (Pu.refl _)
              · intro a' w' hs hp he
                have hp : Pu _ w' := hp
                try simp [Is, Region.binds] at he
                refine op_valB rfl (wanted_none rfl) (by go_simp; exact ⟨rfl, rfl⟩) ?_ (But.pu ((Pu.refl _).alloc _)); exact ⟨_, _, rfl, Row.newAt _ _ _ _ rfl rfl⟩
              · intro a' w' hs hp he
                have hp : But w7.heap.size _ w' := hp
                try simp [Is, Region.binds] at he
                obtain ⟨g5, cap5, hv5, hrow5⟩ := he; have hcv := hrow5.conv (P := Tryz.prog) (n := 1) (cap := cap5) 42 9 rfl Tryz.underlying42 Tryz.underlying5 Tryz.underlying9; exact op_val rfl (wanted_none rfl) (by first | (go_simp; done) | (go_simp; rfl)) rfl (Pu.refl _)
              · intro a' w' hs hp he
                have hp : But w7.heap.size _ w' := hp
                try simp [Is, Region.binds] at he
                exact op_val rfl (wanted_none rfl) (by first | (go_simp; done) | (go_simp; rfl) | (simp [execOp, Act.eval, go_sem, *]; done) | (simp [execOp, Act.eval, go_sem, *]; rfl)) rfl (Pu.refl _)
            case hend =>
              intro a' w' hdef hsz hs hp hall
              obtain ⟨r0, r1, r2, r3, r4, r5, r6, r7, -⟩ := hall
              obtain ⟨g5, cap5, rv5, row5⟩ := r5
              have hA := agree_done (agree_step (agree_step (agree_step (agree_step (agree_step (agree_step (agree_step (agree_step (agree_initL [68, 69, 70, 71, 72, 73, 74, 75] hsz hs (by kernel_rfl)) r0) r1) r2) r3) r4) rv5) r6) r7)
              have ha := act_of hA hdef
              rw [ha]
              clear ha hA hs hsz hdef r0 r1 r2 r3 r4 r6 r7 rv5
              (try simp only [List.setIfInBounds_toArray])
              (try dsimp only [List.set_cons_zero, List.set_cons_succ])
              (try simp only [Exit.then])
              refine op_run rfl (wanted_none rfl) (by first | (go_simp; done) | (go_simp; rfl) | (go_simp; exact ⟨rfl, rfl⟩)) ?_
              (try simp only [Exit.inBlock, Exit.then])
              (try simp only [Act.put, List.setIfInBounds_toArray])
              (try dsimp only [List.set_cons_zero, List.set_cons_succ])
              have t7b := t7.pu (But.toPu hp (Nat.le_refl _))
              clear hp
              simp only [Option.isSome_some, if_true]
              go_wp2_with (first
                | (go_at_call 30; refine (trioGot t7b hnh HLEN.out (by show (3 : Nat) ≤ 1000000; omega) (by show List.length pap ≤ 10000; rw [HPL.out]; omega) (by show (1 : Nat) ≤ 1000; omega) p2 (by rw [HTEL.out]; omega) 5 (by decide) (by decide)).mono ?_; rw [E3.out, HST.out]; rintro e w8 ⟨rfl, t8⟩)
                | (go_at_call 41; refine (failsW t8.u annW (by decide)).mono ?_; rw [fail_fails]; rintro e w9 ⟨rfl, rfl⟩)
                | (go_at_call 42; refine (lockedW t8.u annW (by decide) 5).mono ?_; rw [fail_lock]; rintro e w9 ⟨rfl, rfl⟩))
              go_roundw
              case rel => exact ⟨k + 1, 0, true, by omega, by omega, by go_num, by first | rfl | go_num, rfl, by first | (intro h; cases h; done) | (intro _; rfl), t8.u, t8.since⟩
              case measure => simp [intOf]; omega
          · rw [if_neg (by omega)] at hst
            have kf : ((f : Int) + 1 == 3) = false := by simp; omega
            have kw : IntKind.i64.wrap ((f : Int) + 1) = (f : Int) + 1 := by rw [IntKind.wrap_i64]; omega
            have E3 := Lib.hid (eW rfl)
            have HST := Lib.hid hst
            clear eL1 eL2 eP eW hst
            go_wp2_with (first
              | (refine wpList_load_row rfl 23 (.tmp 3) rfl w1.heap.size [S annW, S secS] (by rfl) hrM2 Tryz.underlying23 rfl hi2 ?_)
              | (go_at_call 13; refine (HNG.out _).mono ?_; rintro e w3 ⟨gb, rfl, hg3, hgl, hp3⟩)
              | (go_at_call 29; refine (HNH.out ub _).mono ?_; rintro e w4 ⟨hb, rfl, hh4, hhl4, hp4⟩
                 have t4 := Trio.start hu hpr hlo hg3 hgl hp3 hh4 hhl4 hp4
                 clear hg3 hh4 hp3 hp4)
              | (go_at_call 24; refine (helloG t4.g).mono ?_; rw [← HHEL.out]; rintro e w5 ⟨rfl, rfl⟩)
              | (go_at_call 30; clear T1; refine (trioGot t4 hnh HLEN.out (by decide) (by decide) (by decide) hel (by omega) 5 (by decide) (by decide)).mono ?_; rw [E1.out]; rintro e w6 ⟨rfl, t6⟩)
              | (go_at_call 18; refine (trioChal t6 (by decide) ann_guest c (by omega)).mono ?_; rw [← HHEL.out, E2.out]; rintro e w7 ⟨rfl, t7⟩)
              | fail)
            have hp2' : pr.take 32 ++ [yb] = p2 := HP2.out.symm
            apply region_writer (g := w7.heap.size) (n := 8) (hn := by kernel_rfl) (hlast := rfl) (hU := by kernel_rfl) (Φ1 := (Is _ :: Is _ :: Is _ :: Is _ :: Is _ :: [])) (Φm := IsRow 5 1 (cells [yb])) (Φ2 := (Is _ :: Is _ :: [])) (hm := by kernel_rfl) (hE := by kernel_rfl) (hD := by kernel_rfl) (hsize := by kernel_rfl)
            case hop =>
              refine ⟨?_, ?_, ?_, ?_, ?_, ?_, ?_, ?_, trivial⟩
              · intro a' w' hs hp he
                have hp : But w7.heap.size _ w' := hp
                have e14 := hs 14 (by kernel_rfl)
                try simp [Is, Region.binds] at he
                exact op_val rfl (wanted_none rfl) (by first | (go_simp; done) | (go_simp; rfl) | (simp [execOp, Act.eval, go_sem, *]; done) | (simp [execOp, Act.eval, go_sem, *]; rfl)) rfl (Pu.refl _)
              · intro a' w' hs hp he
                have hp : But w7.heap.size _ w' := hp
                try simp [Is, Region.binds] at he
                exact op_val rfl (wanted_none rfl) (by first | (go_simp; done) | (go_simp; rfl) | (simp [execOp, Act.eval, go_sem, *]; done) | (simp [execOp, Act.eval, go_sem, *]; rfl)) rfl (Pu.refl _)
              · intro a' w' hs hp he
                have hp : But w7.heap.size _ w' := hp
                have e14 := hs 14 (by kernel_rfl)
                try simp [Is, Region.binds] at he
                exact op_val rfl (wanted_none rfl) (by first | (go_simp; done) | (go_simp; rfl) | (simp [execOp, Act.eval, go_sem, *]; done) | (simp [execOp, Act.eval, go_sem, *]; rfl)) rfl (Pu.refl _)
              · intro a' w' hs hp he
                have hp : But w7.heap.size _ w' := hp
                try simp [Is, Region.binds] at he
                exact op_val rfl (wanted_none rfl) (by first | (go_simp; done) | (go_simp; rfl) | (simp [execOp, Act.eval, go_sem, *]; done) | (simp [execOp, Act.eval, go_sem, *]; rfl)) rfl (Pu.refl _)
              · intro a' w' hs hp he
                have hp : But w7.heap.size _ w' := hp
                try simp [Is, Region.binds] at he
                exact op_val rfl (wanted_none rfl) (by first | (go_simp; done) | (go_simp; rfl) | (simp [execOp, Act.eval, go_sem, *]; done) | (simp [execOp, Act.eval, go_sem, *]; rfl)) rfl (Pu.refl _)
              · intro a' w' hs hp he
                have hp : Pu _ w' := hp
                try simp [Is, Region.binds] at he
                refine op_valB rfl (wanted_none rfl) (by go_simp; exact ⟨rfl, rfl⟩) ?_ (But.pu ((Pu.refl _).alloc _)); exact ⟨_, _, rfl, Row.newAt _ _ _ _ rfl rfl⟩
              · intro a' w' hs hp he
                have hp : But w7.heap.size _ w' := hp
                try simp [Is, Region.binds] at he
                obtain ⟨g5, cap5, hv5, hrow5⟩ := he; have hcv := hrow5.conv (P := Tryz.prog) (n := 1) (cap := cap5) 42 9 rfl Tryz.underlying42 Tryz.underlying5 Tryz.underlying9; exact op_val rfl (wanted_none rfl) (by first | (go_simp; done) | (go_simp; rfl)) rfl (Pu.refl _)
              · intro a' w' hs hp he
                have hp : But w7.heap.size _ w' := hp
                try simp [Is, Region.binds] at he
                exact op_val rfl (wanted_none rfl) (by first | (go_simp; done) | (go_simp; rfl) | (simp [execOp, Act.eval, go_sem, *]; done) | (simp [execOp, Act.eval, go_sem, *]; rfl)) rfl (Pu.refl _)
            case hend =>
              intro a' w' hdef hsz hs hp hall
              obtain ⟨r0, r1, r2, r3, r4, r5, r6, r7, -⟩ := hall
              obtain ⟨g5, cap5, rv5, row5⟩ := r5
              have hA := agree_done (agree_step (agree_step (agree_step (agree_step (agree_step (agree_step (agree_step (agree_step (agree_initL [68, 69, 70, 71, 72, 73, 74, 75] hsz hs (by kernel_rfl)) r0) r1) r2) r3) r4) rv5) r6) r7)
              have ha := act_of hA hdef
              rw [ha]
              clear ha hA hs hsz hdef r0 r1 r2 r3 r4 r6 r7 rv5
              (try simp only [List.setIfInBounds_toArray])
              (try dsimp only [List.set_cons_zero, List.set_cons_succ])
              (try simp only [Exit.then])
              refine op_run rfl (wanted_none rfl) (by first | (go_simp; done) | (go_simp; rfl) | (go_simp; exact ⟨rfl, rfl⟩)) ?_
              (try simp only [Exit.inBlock, Exit.then])
              (try simp only [Act.put, List.setIfInBounds_toArray])
              (try dsimp only [List.set_cons_zero, List.set_cons_succ])
              have t7b := t7.pu (But.toPu hp (Nat.le_refl _))
              clear hp
              simp only [Option.isSome_some, if_true]
              go_wp2_with (first
                | (go_at_call 30; refine (trioGot t7b hnh HLEN.out (by show (3 : Nat) ≤ 1000000; omega) (by show List.length pap ≤ 10000; rw [HPL.out]; omega) (by show (1 : Nat) ≤ 1000; omega) p2 (by rw [HTEL.out]; omega) 5 (by decide) (by decide)).mono ?_; rw [E3.out, HST.out]; rintro e w8 ⟨rfl, t8⟩)
                | (go_at_call 41; refine (failsW t8.u annW (by decide)).mono ?_; rw [fail_fails]; rintro e w9 ⟨rfl, rfl⟩)
                | (go_at_call 42; refine (lockedW t8.u annW (by decide) 5).mono ?_; rw [fail_lock]; rintro e w9 ⟨rfl, rfl⟩))
              go_roundw
              case rel => exact ⟨k + 1, f + 1, false, by omega, by omega, by go_num, by first | rfl | go_num, rfl, by first | (intro h; cases h; done) | (intro _; rfl), t8.u, t8.since⟩
              case measure => simp [intOf]; omega
    · obtain rfl : k = len := by omega
      have hlt' : decide ((k : Int) < k) = false := by simp
      go_wp2_with fail
      go_ret
      exact ⟨rfl, Pu.trans hp1 (Pu.trans hpM hpr)⟩
end Go.Proofs.YtlbdbmnkjljohaaGreat
