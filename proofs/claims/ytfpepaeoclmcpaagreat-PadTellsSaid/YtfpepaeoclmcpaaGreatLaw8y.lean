/- Chapter 8: PadTells. -/
import Derived.Test.YtfpepaeoclmcpaaGreatBookApart
import Derived.Test.YtfpepaeoclmcpaaGreatLaw8z
import Derived.Test.YtfpepaeoclmcpaaGreatRefPad
set_option linter.unusedSimpArgs false
set_option linter.unusedVariables false
namespace Go.Proofs.YtfpepaeoclmcpaaGreat
open Go.RowKit Go.Esc
theorem Ap.new {u v : Value} (B : Nat) (hu : ∀ k, u.ownBlock = some k → k < B) (hv : ∀ k, v.ownBlock = some k → B ≤ k) : Ap u v := fun g h1 h2 => by
  have := hu g h1; have := hv g h2; omega
theorem Kp.nil (w : World) (b : Nat) : Kp w b (.slice none 0 0) (.slice none 0 0) [] [] [] [] :=
  ⟨World.ownsRow_nil _ _ _ _, World.ownsRow_nil _ _ _ _, rfl, rfl, fun j s l hj => by simp at hj, fun j s l hj => by simp at hj, fun g h => (by cases h), fun s hs => by simp at hs, fun s hs => by simp at hs, fun i j s t _ hs => by simp at hs⟩
def xs0 : List Value := List.replicate 14 (.slice none 0 0)
theorem xs0_nils : Nils xs0 := ⟨rfl, fun k hk _ _ => by rw [xs0, List.getElem?_replicate, if_pos hk]⟩
theorem LI.row {w : World} {g cap n : Nat} {e : TypeId} {l : List Int} (h : Row w g e (ints l)) (hn : l.length = n) (hm : n ≤ 100000) : LI w (.slice (some ⟨g, 0, none⟩) n cap) l := by
  subst hn
  refine ⟨g, cap, rfl, hm, h.lt, fun j u hj => ?_⟩
  rw [h.cell' j (List.getElem?_eq_some_iff.1 hj).1]; exact hj
set_option maxRecDepth 100000 in
set_option maxHeartbeats 3200000 in
theorem padTells_walk (s : ByteArray) (_ : s.size ≤ maxLen) (s' : ByteArray) (_ : s'.size ≤ maxLen) (n : Int) (_ : (Lit.int .i64 n).wf = true) (w : World) :
    Calls Tryz.prog 3 #[.string s, .string s', .int .i64 n] w fun e w' => e = .returned (.bool true) ∧ Pu w w' := by
  obtain ⟨a, rfl⟩ : ∃ a, s = bs a := ⟨_, bs_eta s⟩
  obtain ⟨c, rfl⟩ : ∃ c, s' = bs c := ⟨_, bs_eta s'⟩
  by_cases hg : 2100 < a.length ∨ 2100 < c.length
  · rcases (by omega : 2100 < a.length ∨ (a.length ≤ 2100 ∧ 2100 < c.length)) with h1 | ⟨h1, h2⟩
    · have k1 : (2100 : Int) < a.length := by omega
      clear hg
      go_enter Tryz.func3, Tryz.ntmps3
      go_wp2_with (go_at_call 4; refine (alive8 _).mono ?_; rintro e w1 ⟨rfl, hb1⟩)
      go_ret
      exact ⟨rfl, hb1⟩
    · have k1 : ¬ (2100 : Int) < a.length := by omega
      have k2 : (2100 : Int) < c.length := by omega
      clear hg
      go_enter Tryz.func3, Tryz.ntmps3
      go_wp2_with (go_at_call 4; refine (alive8 _).mono ?_; rintro e w1 ⟨rfl, hb1⟩)
      go_ret
      exact ⟨rfl, hb1⟩
  · have k1 : ¬ (2100 : Int) < a.length := by omega
    have k2 : ¬ (2100 : Int) < c.length := by omega
    have hps := fun w => pad a w (by omega)
    have hrp := fun w => refPad a w (by omega)
    have hun := fun w => unpad c w (by omega)
    have hru := fun w => refUnpad c w (by omega)
    have hsi := fun w => size n w
    have hrs := fun w => refSize n w
    have hso := fun w => sizesOwn w
    obtain ⟨l, hl⟩ : ∃ l : List Int, l = [32, 128, 512, 2048] := ⟨_, rfl⟩
    have hlen : l.length = 4 := by rw [hl]; rfl
    rw [← hl] at hso
    generalize (padL a).getD [] = p at hps hrp
    generalize (padL a).isSome = p' at hps hrp
    generalize (unpadL c).getD [] = u at hun hru
    generalize (unpadL c).isSome = u' at hun hru
    generalize (((padSize n).getD 0 : Nat) : Int) = z at hsi hrs
    generalize (padSize n).isSome = z' at hsi hrs
    have hq1 : (p == p) = true := by simp
    have hq2 : (u == u) = true := by simp
    have HPS := Lib.hid hps
    have HRP := Lib.hid hrp
    have HUN := Lib.hid hun
    have HRU := Lib.hid hru
    have HSI := Lib.hid hsi
    have HRS := Lib.hid hrs
    have HSO := Lib.hid hso
    have HL := Lib.hid hl
    have HLN := Lib.hid hlen
    have T1 := Lib.hid True.intro
    have T2 := Lib.hid True.intro
    have T3 := Lib.hid True.intro
    have U1 := Lib.hid True.intro
    clear hps hrp hun hru hsi hrs hso hl hlen hg
    go_enter Tryz.func3, Tryz.ntmps3
    go_wp2_with (first
      | (go_at_call 4; refine (alive8 _).mono ?_; rintro e w1 ⟨rfl, hp1⟩)
      | (go_at_call 6; clear T1; refine (HSO.out _).mono ?_; rintro e w2 ⟨g1, cap1, rfl, hp2, ho1⟩
         have hr2 : Row w2 w1.heap.size 32 xs0 := (Row.new w1 xs0.toArray 32).pu hp2
         have hB2 : Below w1.heap.size w1 w2 := ((Below.refl _ _).alloc (Nat.le_refl _) _).trans (Below.mono hp2 (by simp))
         have ho1' : w2.ownsRow (w1.heap.size + 1) 3 1 (.slice (some ⟨g1, 0, none⟩) 4 cap1) 4 (ints l) := (by simpa using ho1)
         have hk2 := Kp.nil w2 w1.heap.size
         clear ho1)
      | (go_at_call 5; clear U1; refine (keepInts w1.heap.size 32 xs0 (.slice none 0 0) (.slice none 0 0) (.slice (some ⟨g1, 0, none⟩) 4 cap1) [] [] [] l w2 hr2 xs0_nils rfl rfl hk2 (by decide) (by rw [HLN.out]; decide) (by rw [HLN.out]; decide) (by rw [HLN.out]; exact ho1') (fun k h => by cases h) (fun k h => by cases h) (fun t h => by cases h)).mono ?_
         rintro e w3 ⟨rfl, xs1, v2, v3, c1, hr3, hn3, h23, h33, hk3, hB3⟩
         have hB3' := hB2.trans hB3
         clear hr2 ho1' hk2 hB2 hB3)
      | (go_at_call 6; clear T2; refine (HSO.out _).mono ?_; rintro e w4 ⟨g2, cap2, rfl, hp4, ho2⟩
         have hr4 := hr3.pu hp4
         have hk4 := hk3.pu hp4
         have hB4 := hB3'.trans (Below.mono hp4 hB3'.size)
         have hsz3 : w1.heap.size + 1 ≤ w3.heap.size := hr3.lt
         have ho2' : w4.ownsRow (w1.heap.size + 1) 3 1 (.slice (some ⟨g2, 0, none⟩) 4 cap2) 4 (ints l) := ownB ho2 hsz3
         have hap : ∀ v, (∀ k, v.ownBlock = some k → k < w3.heap.size) → Ap v (.slice (some ⟨g2, 0, none⟩) 4 cap2) := fun v hv => Ap.new w3.heap.size hv (fun k hk => (ho2.lt k hk).1)
         have ha2 := hap v2 (fun k h => (hk3.o2.lt k h).2)
         have ha3 := hap v3 (fun k h => (hk3.o3.lt k h).2)
         have has := fun t ht => hap t (fun k h => (hk3.lt2 t ht k h).2)
         clear hr3 hk3 hB3' hap ho2)
      | (go_at_call 5; refine (keepInts w1.heap.size 32 xs1 v2 v3 (.slice (some ⟨g2, 0, none⟩) 4 cap2) _ _ _ l w4 hr4 hn3 h23 h33 hk4 (by simp) (by rw [HLN.out]; decide) (by rw [HLN.out]; decide) (by rw [HLN.out]; exact ho2') ha2 ha3 has).mono ?_
         rintro e w5 ⟨rfl, xs2, v4, v5, c2, hr5, hn5, h25, h35, hk5, hB5⟩
         have hB5' := hB4.trans hB5
         clear hr4 hk4 hB4 hB5 ho2' ha2 ha3 has hn3 h23 h33)
      | (go_at_call 7; refine (HSI.out _).mono ?_; rintro e w6 ⟨rfl, hp6⟩)
      | (go_at_call 8; refine (HRS.out _).mono ?_; rintro e w7 ⟨rfl, hp7⟩)
      | (go_at_call 9; refine (HPS.out _).mono ?_; rintro e w8 ⟨rfl, hp8⟩)
      | (go_at_call 10; refine (HRP.out _).mono ?_; rintro e w9 ⟨rfl, hp9⟩)
      | (go_at_call 11; refine (HUN.out _).mono ?_; rintro e w10 ⟨rfl, hp10⟩)
      | (go_at_call 12; refine (HRU.out _).mono ?_; rintro e w11 ⟨rfl, hp11⟩)
      | (go_at_call 6; refine (HSO.out _).mono ?_; rintro e w12 ⟨g3, cap3, rfl, hp12, ho3⟩
         have hli3 := LI.own ho3 HLN.out (by decide) (by decide)
         clear ho3)
      | (go_at_call 13; refine (sameInts _ _ l _ (hli3.pu ((Pu.refl w12).alloc _)) (LI.row (e := 3) (by rw [HL.out]; exact Row.new w12 #[.int .i64 32, .int .i64 128, .int .i64 512, .int .i64 2048] 3) HLN.out (by decide))).mono ?_; rintro e w13 ⟨rfl, hp13⟩
         have hpx : Pu w5 w13 := ((((((hp6.trans hp7).trans hp8).trans hp9).trans hp10).trans hp11).trans hp12).trans (((Pu.refl w12).alloc _).trans hp13)
         have hr13 := hr5.pu hpx
         have hk13 := hk5.pu hpx
         have hB13 := hB5'.trans (Below.mono hpx hB5'.size)
         clear hr5 hk5 hB5' hpx)
      | (go_at_call 14; refine (bookApart w1.heap.size 32 xs2 v4 v5 _ _ _ w13 hr13 hn5 h25 h35 hk13 (by simp) (by simp) (by intro m hm; have hml : m = l := (by simpa using hm); rw [hml, HLN.out]; decide)).mono ?_; rintro e w14 ⟨rfl, hB14⟩))
    go_ret
    exact ⟨rfl, hp1.trans (hB13.trans hB14)⟩
end Go.Proofs.YtfpepaeoclmcpaaGreat
