/- Chapter 13: an Out and an In side by side; the first call. -/
import Derived.Test.YtoakccknimoogaaGreatT13
set_option linter.unusedSimpArgs false
set_option linter.unusedVariables false
set_option linter.unusedSimpArgs false
set_option linter.unusedVariables false
namespace Go.Proofs.YtoakccknimoogaaGreat
open Go.RowKit Go.Esc
theorem own_cg {G : Nat → Prop} {w w' : World} {B e n : Nat} {v : Value} {xs : List Value} (h : w.ownsRow B e 1 v n xs) (hp : Cg G w w') (hne : ∀ g, v.ownBlock = some g → ¬ G g) : w'.ownsRow B e 1 v n xs := by
 refine ⟨h.1, ?_⟩
 rcases h.2 with h0 | ⟨g, cap, cur, hv, hg, hc, rest⟩
 · exact .inl h0
 · refine .inr ⟨g, cap, cur, hv, hg, ?_, rest⟩
   rw [hp.block g (Array.getElem?_eq_some_iff.1 hc).1 (hne g (by rw [hv]; rfl))]
   exact hc
/-- An Out and an In, that were made since world w0. -/
structure OI (Go Gi : Nat → Prop) (w0 w : World) (ob ib : Nat) (k1 k2 : Bs) (m1 n m2 : Nat) (s : InS) : Prop where
 o : OutAt Go w ob k1 m1 n
 i : InAt Gi w ib k2 m2 s
 d : ∀ g, Go g → ¬ Gi g
 since : Pu w0 w
 lo : ∀ g, Go g → w0.heap.size ≤ g
 li : ∀ g, Gi g → w0.heap.size ≤ g
theorem Gw.low {G : Nat → Prop} {w w' : World} {B : Nat} (h : ∀ g, G g → B ≤ g) (hB : B ≤ w.heap.size) : ∀ g, Gw G w w' g → B ≤ g := fun g hg => by
 rcases hg with h1 | h1
 · exact h g h1
 · exact Nat.le_trans hB h1.1
theorem Cg.since {G : Nat → Prop} {w0 w w' : World} (h : Pu w0 w) (k : Cg G w w') (hg : ∀ g, G g → w0.heap.size ≤ g) : Pu w0 w' := Cg.below h k hg h.size
section
variable {Go Gi : Nat → Prop} {w0 w : World} {ob ib : Nat} {k1 k2 : Bs} {m1 n m2 : Nat} {s : InS}
theorem OI.pu (h : OI Go Gi w0 w ob ib k1 k2 m1 n m2 s) {w' : World} (hp : Pu w w') : OI Go Gi w0 w' ob ib k1 k2 m1 n m2 s := ⟨h.o.pu hp, h.i.pu hp, h.d, h.since.trans hp, h.lo, h.li⟩
theorem OI.cg (h : OI Go Gi w0 w ob ib k1 k2 m1 n m2 s) {w' : World} {H : Nat → Prop} (hp : Cg H w w') (ho : ∀ g, H g → ¬ Go g) (hi : ∀ g, H g → ¬ Gi g) (hl : ∀ g, H g → w0.heap.size ≤ g) : OI Go Gi w0 w' ob ib k1 k2 m1 n m2 s := ⟨h.o.cg hp ho, h.i.cg hp hi, h.d, Cg.since h.since hp hl, h.lo, h.li⟩
theorem OI.start {w2 w3 : World} (hw : Pu w0 w2) {w1 : World} (h01 : Pu w0 w1) (h12 : Pu w1 w2) (ho : OutAt (Gw (fun _ => False) w1 w2) w2 ob k1 0 0) (hi : InAt (Gw (fun _ => False) w2 w3) w3 ib k2 0 s0) (hp : Pu w2 w3) : OI (Gw (fun _ => False) w1 w2) (Gw (fun _ => False) w2 w3) w0 w3 ob ib k1 k2 0 0 0 (inOrd 0) :=
 ⟨ho.pu hp, hi, fun g hg hh => by rcases hh with h1 | h1; exact h1; have := ho.dom g hg; omega, hw.trans hp, Gw.low (fun _ h => h.elim) h01.size, Gw.low (fun _ h => h.elim) hw.size⟩
theorem oiSeal (h : OI Go Gi w0 w ob ib k1 k2 m1 n m2 s) (hk : k1.length = 32) (p pp : Bs) (hp : padL p = some pp) (hn : n < 400) (hm : m1 ≤ 100000) (hl : p.length ≤ 140737488351232) :
 Calls Tryz.prog 9 #[.pointer (some ⟨ob, 0, none⟩), S p] w fun e w' => e = .returned (.tuple #[S (recL k1 n p), .int .i64 0]) ∧ OI (Gw Go w w') Gi w0 w' ob ib k1 k2 (m1+1) (n+1) m2 s ∧ Cg Go w w' := by
 refine (sealOk h.o hk p pp hl hp hn hm).mono ?_
 rintro e w' ⟨rfl, ho, hc⟩
 refine ⟨rfl, ⟨ho, h.i.cg hc h.d, fun g hg hh => ?_, Cg.since h.since hc h.lo, Gw.low h.lo h.since.size, h.li⟩, hc⟩
 rcases hg with h1 | h1
 · exact h.d g h1 hh
 · have := h.i.dom g hh; omega
theorem oiOpen (h : OI Go Gi w0 w ob ib k1 k2 m1 n m2 s) (hk : k2.length = 32) (b : Bs) (hm : m2 ≤ 90000) (hb : b.length ≤ 90000) :
 Calls Tryz.prog 12 #[.pointer (some ⟨ib, 0, none⟩), S b] w fun e w' => ∃ v, e = .returned (.tuple #[v, .int .i64 ((openS k2 s b).1 : Int)]) ∧ w'.ownsRow w.heap.size 9 1 v (openS k2 s b).2.1.length ((openS k2 s b).2.1.map S) ∧
  OI Go (fun g => Gw Gi w w' g ∧ v.ownBlock ≠ some g) w0 w' ob ib k1 k2 m1 n (m2+1) (openS k2 s b).2.2 ∧ Cg Gi w w' := by
 refine (inOpen h.i hk hm b hb).mono ?_
 rintro e w' ⟨v, rfl, ho, hi, hc⟩
 refine ⟨v, rfl, ho, ⟨h.o.cg hc (fun g h1 h2 => h.d g h2 h1), hi, fun g hg hh => ?_, Cg.since h.since hc h.li, h.lo, fun g hg => Gw.low h.li h.since.size g hg.1⟩, hc⟩
 rcases hh.1 with h1 | h1
 · exact h.d g hg h1
 · have := h.o.dom g hg; omega
end
theorem run_nil {f : Nat → Option Bs} {n : Nat} (h : f n = none) : IsRun f n [] := ⟨fun j hj => by simp at hj, by simpa using h⟩
def oneW : Bs := [111, 110, 101]
def twoW : Bs := [116, 119, 111]
set_option maxRecDepth 100000 in
set_option maxHeartbeats 1600000 in
theorem alive13 (w : World) : Calls Tryz.prog 5 #[] w fun e w' => e = .returned (.bool true) ∧ Pu w w' := by
 have hfl := fun w => fillAny [107] 32 (by decide) (by decide) w
 have hkl := fillL_length [107] 32
 obtain ⟨key, hkey⟩ : ∃ k, k = fillL [107] 32 := ⟨_, rfl⟩
 rw [← hkey] at hfl hkl
 clear hkey
 obtain ⟨p1, hp1⟩ := padL_short (p := oneW) (by decide)
 obtain ⟨p2, hp2⟩ := padL_short (p := twoW) (by decide)
 have hr0 := recL_le key 0 hp1
 have hr1 := recL_le key 1 hp2
 have s1 : openS key (inOrd 0) (recL key 1 twoW) = (0, [], ⟨0, cutF (updF (fun _ => none) 1 (some twoW)) 0, 1⟩) :=
  openS_run key (inOrd 0) 1 twoW p2 hkl hp2 (by decide) (by decide) (by decide) rfl [] (run_nil rfl) (inOrd_ok 0 (by decide))
 have ok1 := openS_ok key (inOrd 0) (recL key 1 twoW) (inOrd_ok 0 (by decide))
 rw [s1] at ok1
 obtain ⟨t1, ht1⟩ : ∃ t : InS, t = ⟨0, cutF (updF (fun _ => none) 1 (some twoW)) 0, 1⟩ := ⟨_, rfl⟩
 have s2 : openS key t1 (recL key 0 oneW) = (0, [oneW, twoW], ⟨2, cutF (updF t1.f 0 (some oneW)) 2, 0⟩) := by
  have hrun : IsRun (updF t1.f 0 (some oneW)) t1.n [oneW, twoW] := by
   rw [ht1]
   refine ⟨fun j hj => ?_, rfl⟩
   match j, hj with
   | 0, _ => rfl
   | 1, _ => rfl
  have := openS_run key t1 0 oneW p1 hkl hp1 (by decide) (by rw [ht1]; decide) (by rw [ht1]; decide) (by rw [ht1]; rfl) [oneW, twoW] hrun (by rw [ht1]; exact ok1)
  rw [this]
  have e1 : t1.n = 0 := by rw [ht1]
  have e2 : t1.c = 1 := by rw [ht1]
  simp only [e1, e2]; rfl
 obtain ⟨t2, ht2⟩ : ∃ t : InS, t = ⟨2, cutF (updF t1.f 0 (some oneW)) 2, 0⟩ := ⟨_, rfl⟩
 have hn2 : t2.n = 2 := by rw [ht2]
 have s3 : openS key t2 (recL key 0 oneW) = (4, [], t2) := by
  rw [openS_recL key t2 0 oneW p1 hkl hp1 (by decide), if_pos (by rw [hn2]; omega)]
 rw [← ht1] at s1
 rw [← ht2] at s2
 clear ok1 ht1 ht2
 obtain ⟨r0, hr0e⟩ : ∃ r, r = recL key 0 oneW := ⟨_, rfl⟩
 obtain ⟨r1, hr1e⟩ : ∃ r, r = recL key 1 twoW := ⟨_, rfl⟩
 rw [← hr0e] at s2 s3 hr0
 rw [← hr1e] at s1 hr1
 have HF := Lib.hid hfl
 have HS1 := Lib.hid s1
 have HS2 := Lib.hid s2
 have HS3 := Lib.hid s3
 have HR0 := Lib.hid hr0e
 have HR1 := Lib.hid hr1e
 have HP1 := Lib.hid hp1
 have HP2 := Lib.hid hp2
 have HKL := Lib.hid hkl
 have HN2 := Lib.hid hn2
 clear hfl s1 s2 s3 hr0e hr1e hp1 hp2 hkl hn2
 have T1 := Lib.hid True.intro
 have T2 := Lib.hid True.intro
 have T3 := Lib.hid True.intro
 have T4 := Lib.hid True.intro
 go_enter Tryz.func5, Tryz.ntmps5
 go_wp2_with (first
  | (go_at_call 6; refine (HF.out _).mono ?_; rintro e w1 ⟨rfl, rfl⟩)
  | (go_at_call 7; clear T1; refine (newOut key HKL.out _).mono ?_; rintro e w2 ⟨ob, rfl, ho2, hp2⟩)
  | (go_at_call 8; refine (newIn key HKL.out _).mono ?_; rintro e w3 ⟨ib, rfl, hi3, hp3⟩
     have oi3 := OI.start hp2 (Pu.refl w1) hp2 ho2 hi3 hp3)
  | (go_at_call 7; refine (newOut_no [115, 104, 111, 114, 116] (by decide) (by decide) _).mono ?_; rintro e w4 ⟨rfl, rfl⟩)
  | (go_at_call 9; clear T2; refine (oiSeal oi3 HKL.out oneW _ HP1.out (by decide) (by decide) (by decide)).mono ?_; rw [← HR0.out]; rintro e w5 ⟨rfl, oi5, hc5⟩)
  | (go_at_call 9; refine (oiSeal oi5 HKL.out twoW _ HP2.out (by decide) (by decide) (by decide)).mono ?_; rw [← HR1.out]; rintro e w6 ⟨rfl, oi6, hc6⟩)
  | (go_at_call 12; clear T3; refine (oiOpen oi6 HKL.out r1 (by decide) (by omega)).mono ?_; rw [HS1.out]; rintro e w7 ⟨v7, rfl, ho7, oi7, hc7⟩
     obtain ⟨a7, q7, rfl, -⟩ := own_slice ho7)
  | (go_at_call 12; clear T4; refine (oiOpen oi7 HKL.out r0 (by decide) (by omega)).mono ?_; rw [HS2.out]; rintro e w8 ⟨v8, rfl, ho8, oi8, hc8⟩
     obtain ⟨g8, q8, rfl, hg8, -⟩ := own_form ho8 (by simp))
  | (go_at_call 12; refine (oiOpen oi8 HKL.out r0 (by decide) (by omega)).mono ?_; rw [HS3.out]; rintro e w9 ⟨v9, rfl, ho9, oi9, hc9⟩
     have ho89 := own_cg ho8 hc9 (fun g hg hh => hh.2 hg)
     have ce0 := ho89.cellAt 0 (by simp)
     have ce1 := ho89.cellAt 1 (by simp)
     simp at ce0 ce1
     obtain ⟨a9, q9, rfl, -⟩ := own_slice ho9)
  | (go_at_call 16; refine (inNext oi9.i).mono ?_; rw [HN2.out]; rintro e w10 ⟨rfl, rfl⟩))
 go_ret
 exact ⟨rfl, oi9.since⟩
end Go.Proofs.YtoakccknimoogaaGreat
