/- Chapter 2: DigestTells, DigestLong, DigestBlocks. -/
import Derived.Test.YtdjbhbefghihcaaLaw2
import Derived.Test.YtdjbhbefghihcaaRefSum
set_option linter.unusedSimpArgs false
set_option linter.unusedVariables false
namespace Go.Proofs.Ytdjbhbefghihcaa
open Go.RowKit Go.Esc
set_option maxRecDepth 100000 in
set_option maxHeartbeats 3200000 in
theorem digestTells_walk (s : ByteArray) (_ : s.size ≤ maxLen) (w : World) :
    Calls Try.prog 7 #[.string s] w fun e w' => e = .returned (.bool true) ∧ Pu w w' := by
  obtain ⟨b, rfl⟩ : ∃ b, s = bs b := ⟨_, bs_eta s⟩
  by_cases hg : 1000 < b.length
  · have g1 : (1000 : Int) < b.length := by omega
    go_enter Try.func7, Try.ntmps7
    go_wp2_with (go_at_call 40; refine (alive2 _).mono ?_; rintro e w1 ⟨rfl, hp1⟩)
    go_ret
    exact ⟨rfl, hp1⟩
  have g1 : decide ((1000 : Int) < b.length) = false := by simp; omega
  obtain ⟨d, hd⟩ : ∃ d, d = sha b := ⟨_, rfl⟩
  have hS := fun w => sum b (by omega) w
  have hR := fun w => refSum b (by omega) w
  rw [← hd] at hS hR
  have HS := Lib.hid hS
  have HR := Lib.hid hR
  clear hS hR hd
  go_enter Try.func7, Try.ntmps7
  go_wp2_with (first
    | (go_at_call 40; refine (alive2 _).mono ?_; rintro e w1 ⟨rfl, hp1⟩)
    | (go_at_call 41; refine (HS.out _).mono ?_; rintro e w2 ⟨rfl, hp2⟩)
    | (go_at_call 42; refine (HR.out _).mono ?_; rintro e w3 ⟨rfl, hp3⟩))
  go_ret
  exact ⟨rfl, (hp1.trans hp2).trans hp3⟩
theorem one_byte {P : Program} (w : World) (x : Int) (h0 : 0 ≤ x) (h : x < 256) (s d e : TypeId) (hs : P.underlying s = some (.slice e)) (he : P.underlying e = some (.int .u8)) (hd : P.underlying d = some .string) :
    ∃ c : UInt8, (convert s d (.slice (some ⟨w.heap.size, 0, none⟩) 1 1)).run P (w.alloc (.cells #[.int .u8 x] e)) = .ok (S [c]) (w.alloc (.cells #[.int .u8 x] e)) := by
  refine ⟨UInt8.ofNat x.toNat, Row.conv (e := e) s d ?_ rfl hs he hd⟩
  have := Row.new w #[.int .u8 x] e
  have e2 : cells [UInt8.ofNat x.toNat] = [.int .u8 x] := by
    simp [cells, B]; omega
  rw [e2]; exact this
set_option maxRecDepth 100000 in
set_option maxHeartbeats 3200000 in
theorem digestLong_walk (n : Int) (_ : (Lit.int .i64 n).wf = true) (c : Int) (hc : (Lit.int .u8 c).wf = true) (w : World) :
    Calls Try.prog 8 #[.int .i64 n, .int .u8 c] w fun e w' => e = .returned (.bool true) ∧ Pu w w' := by
  by_cases g1 : n < 0
  · go_enter Try.func8, Try.ntmps8
    go_wp2_with (go_at_call 40; refine (alive2 _).mono ?_; rintro e w1 ⟨rfl, hp1⟩)
    go_ret
    exact ⟨rfl, hp1⟩
  have q1 : decide (n < 0) = false := by simp; omega
  by_cases g2 : 400 < n
  · go_enter Try.func8, Try.ntmps8
    go_wp2_with (go_at_call 40; refine (alive2 _).mono ?_; rintro e w1 ⟨rfl, hp1⟩)
    go_ret
    exact ⟨rfl, hp1⟩
  have q2 : decide (400 < n) = false := by simp; omega
  have q3 : (0 : Int) ≤ n := by omega
  go_enter Try.func8, Try.ntmps8
  go_wp2_with (go_at_call 40; refine (alive2 _).mono ?_; rintro e w1 ⟨rfl, hp1⟩)
  go_loopw [5, 6] (fun v i wr => ∃ (k : Nat) (b : Bs), (k : Int) ≤ n ∧ b.length = k ∧ v = S b ∧ i = .int .i64 (k : Int) ∧ Pu w1 wr) (fun _ i _ => (n - intOf i).toNat)
  case atStart => exact ⟨0, [], by omega, rfl, rfl, rfl, Pu.refl _⟩
  case round =>
    obtain ⟨k, b, hk, hb, rfl, rfl, hpu⟩ := hrel
    by_cases hlt : (k : Int) < n
    · obtain ⟨x, hx⟩ : ∃ x, x = (c + (k : Int)) % 256 := ⟨_, rfl⟩
      have hx0 : 0 ≤ x ∧ x < 256 := by omega
      obtain ⟨c1, hcv⟩ := one_byte (P := Try.prog) wr x hx0.1 hx0.2 27 9 5 Try.underlying27 Try.underlying5 Try.underlying9
      have z6 : ¬ (9223372036854775807 < b.length + 1) := by omega
      have hx' := hx.symm
      have hk400 : k ≤ 400 := by omega
      have HB := Lib.hid hb
      clear hx hb
      go_wp2_with fail
      go_roundw
      case rel => have := HB.out; exact ⟨k + 1, b ++ [c1], by omega, by simp; omega, by go_num, by go_num, hpu.alloc _⟩
      case measure => simp [intOf]; omega
    · have hq : decide ((k : Int) < n) = false := by simp; omega
      obtain ⟨d, hd⟩ : ∃ d, d = sha b := ⟨_, rfl⟩
      have hdl : d.length = 32 := by rw [hd]; exact sha_length _
      have hS := fun w => sum b (by omega) w
      have hR := fun w => refSum b (by omega) w
      rw [← hd] at hS hR
      have HS := Lib.hid hS
      have HR := Lib.hid hR
      clear hS hR hd
      go_wp2_with (first
        | (go_at_call 41; refine (HS.out _).mono ?_; rintro e w2 ⟨rfl, hp2⟩)
        | (go_at_call 42; refine (HR.out _).mono ?_; rintro e w3 ⟨rfl, hp3⟩))
      go_ret
      exact ⟨rfl, ((hp1.trans hpu).trans hp2).trans hp3⟩
theorem Dig.grown {w w' : World} {b : Nat} {l : Bs} (h : Dig w b l) {row : Option Nat} (hg : w.grownBy w' row) (hne : row ≠ some b) : Dig w' b l := by
  obtain ⟨e, xs, hr, hx⟩ := h
  exact ⟨e, xs, hr.other (hg.block b hr.lt (fun e => hne e.symm)), hx⟩
theorem byte_of (y : Int) (h0 : 0 ≤ y) (h : y < 256) : ∃ c : UInt8, y = (c.toNat : Int) := ⟨UInt8.ofNat y.toNat, by simp; omega⟩
set_option maxRecDepth 100000 in
set_option maxHeartbeats 3200000 in
theorem digestBlocks_walk (c : Int) (hc : (Lit.int .u8 c).wf = true) (n : Int) (_ : (Lit.int .i64 n).wf = true) (w : World) :
    Calls Try.prog 10 #[.int .u8 c, .int .i64 n] w fun e w' => e = .returned (.bool true) ∧ Pu w w' := by
  by_cases g1 : n < 0
  · go_enter Try.func10, Try.ntmps10
    go_wp2_with (go_at_call 40; refine (alive2 _).mono ?_; rintro e w1 ⟨rfl, hp1⟩)
    go_ret
    exact ⟨rfl, hp1⟩
  have q1 : decide (n < 0) = false := by simp; omega
  by_cases g2 : 8 < n
  · go_enter Try.func10, Try.ntmps10
    go_wp2_with (go_at_call 40; refine (alive2 _).mono ?_; rintro e w1 ⟨rfl, hp1⟩)
    go_ret
    exact ⟨rfl, hp1⟩
  have q2 : decide (8 < n) = false := by simp; omega
  have q3 : (0 : Int) ≤ n := by omega
  obtain ⟨i0, hi, hz0, hz1, hz2⟩ := info_parts infoB
  go_enter Try.func10, Try.ntmps10
  go_wp2_with (go_at_call 40; refine (alive2 _).mono ?_; rintro e w1 ⟨rfl, hp1⟩)
  have hd1 := Dig.new w1 38
  have hb1 := (Pu.refl w1).alloc (.cells (dcells false zero8 [] 0).toArray 38)
  go_loopw [6, 7] (fun v i wr => ∃ (k : Nat) (all : Bs), (k : Int) ≤ n ∧ all.length = 64 * k ∧ v = S all ∧ i = .int .i64 (k : Int) ∧ Dig wr w1.heap.size all ∧ Below w1.heap.size w1 wr) (fun _ i _ => (n - intOf i).toNat)
  case atStart => exact ⟨0, [], by omega, rfl, rfl, rfl, hd1, hb1⟩
  case round =>
    clear hd1 hb1
    obtain ⟨k, all, hk, hal, rfl, rfl, hd, hbel⟩ := hrel
    by_cases hlt : (k : Int) < n
    · have HAL := Lib.hid hal
      have hgl := hd.lt
      clear hal
      go_wp2_with (at_make; refine wpList_make_full _ rfl _ _ 27 rfl wr.heap.size 5 i0 (.int .u8 0) 1 Try.underlying27 hi hz0 hz1 _ _ _ _ 64 rfl rfl rfl rfl (by rw [hz2]; omega) (by unfold maxLen; omega) (Nat.le_refl _) ?_; intro w2 hown hgrow)
      have hd2 := hd.grown hgrow (by simp)
      have hb2 := hbel.grown hgrow hbel.size (by simp)
      have hs2 := hbel.size
      obtain ⟨gB, hgB⟩ : ∃ g, g = wr.heap.size := ⟨_, rfl⟩
      rw [← hgB] at hown hs2 hgl ⊢
      clear hgB
      go_loopw [31] (fun i wq => ∃ (t : Nat) (l : Bs), t ≤ 64 ∧ l.length = 64 ∧ i = .int .i64 (t : Int) ∧ wq.ownsRow gB 5 1 (.slice (some ⟨gB, 0, none⟩) 64 64) 64 (cells l) ∧ Dig wq w1.heap.size all ∧ Below w1.heap.size w1 wq) (fun i _ => 64 - (intOf i).toNat)
      case atStart => exact ⟨0, List.replicate 64 0, by omega, by simp, rfl, by rw [madeZ] at hown; exact hown, hd2, hb2⟩
      case round =>
        clear hown hgrow hd2 hb2 hd hbel
        obtain ⟨t, l, ht, hl, rfl, hown, hd, hbel⟩ := hrel
        by_cases htt : t < 64
        · obtain ⟨v0, hcl⟩ : ∃ v0, wr.cell? ⟨gB, t, none⟩ = some v0 := by
            have hcl := hown.cellAt t htt
            rw [cells_get _ _ (by omega)] at hcl
            exact ⟨_, hcl⟩
          have hf := hown.frozenAt t
          obtain ⟨y, hy⟩ := byte_of ((c + (k : Int) * t) % 256) (by omega) (by omega)
          have hst := hown.stored t (.int .u8 (y.toNat : Int))
          rw [cells_set] at hst
          have hkt : 0 ≤ (k : Int) * t ∧ (k : Int) * t ≤ 512 := by
            have h1 : (k : Int) * t ≤ 8 * 64 := Int.mul_le_mul (by omega) (by omega) (by omega) (by omega)
            exact ⟨Int.mul_nonneg (by omega) (by omega), by omega⟩
          have hw : IntKind.i64.wrap ((k : Int) * t) = (k : Int) * t := by rw [IntKind.wrap_i64]; omega
          have h0t : (0 : Int) ≤ t := by omega
          have h64t : (t : Int) < 64 := by omega
          have HL := Lib.hid hl
          clear hl hkt
          go_wp2_with fail
          go_roundw
          case rel => exact ⟨t + 1, l.set t y, by omega, by rw [List.length_set]; exact HL.out, by go_num, hst.1, hd.grown hst.2 (by simp; omega), hbel.grown hst.2 hbel.size (by simp; omega)⟩
          case measure => simp [intOf]; omega
        · obtain rfl : t = 64 := by omega
          have hcv := own_conv (P := Try.prog) 27 9 hown Try.underlying27 Try.underlying5 Try.underlying9
          have hal2 := HAL.out
          have z6 : ¬ (9223372036854775807 < all.length + l.length) := by omega
          have HL := Lib.hid hl
          have hlle : all.length + l.length ≤ 1000000 := by omega
          clear hl hal2
          go_wp2_with (go_at_call 43; refine (digestAdd w1.heap.size all l hlle _ hd).mono ?_
                       rintro e w3 ⟨rfl, hb3, hd3⟩; replace hbel := But.below hbel hb3 (Nat.le_refl _) hbel.size
                       have hown3 : w3.ownsRow gB 5 1 (.slice (some ⟨gB, 0, none⟩) 64 64) 64 (cells l) := by
                         refine hown.kept (row := some w1.heap.size) ⟨hb3.os, hb3.tape, hb3.output, hb3.size, fun j hj hne => hb3.block j hj (fun e => hne (by rw [e]))⟩ (Or.inr (by simp [Value.ownBlock]; omega))
                       have hcv3 := own_conv (P := Try.prog) 27 9 hown3 Try.underlying27 Try.underlying5 Try.underlying9)
          go_roundw
          case rel =>
            have h1 := HL.out
            have h2 := HAL.out
            exact ⟨k + 1, all ++ l, by omega, by rw [List.length_append]; omega, rfl, by go_num, hd3, hbel⟩
          case measure => simp [intOf]; omega
    · obtain rfl : n = (k : Int) := by omega
      obtain ⟨d, hdd⟩ : ∃ d, d = sha all := ⟨_, rfl⟩
      have hS := fun w => sum all (by omega) w
      have hR := fun w => refSum all (by omega) w
      have hT := fun w g h => digestSum g all (by omega) w h
      rw [← hdd] at hS hR hT
      have HS := Lib.hid hS
      have HR := Lib.hid hR
      have HT := Lib.hid hT
      have hal2 : (all.length : Int) = 64 * k := by omega
      have hw64 : IntKind.i64.wrap (64 * (k : Int)) = 64 * k := by rw [IntKind.wrap_i64]; omega
      clear hS hR hT hdd hal
      go_wp2_with (first
        | (go_at_call 44; refine (HT.out _ _ hd).mono ?_; rintro e w4 ⟨rfl, hp⟩; replace hd := hd.pu hp; replace hbel := hbel.trans (Below.mono hp hbel.size))
        | (go_at_call 45; refine (digestLen _ _ _ hd).mono ?_; rintro e w4 ⟨rfl, rfl⟩)
        | (go_at_call 41; refine (HS.out _).mono ?_; rintro e w4 ⟨rfl, hp⟩; replace hd := hd.pu hp; replace hbel := hbel.trans (Below.mono hp hbel.size))
        | (go_at_call 42; refine (HR.out _).mono ?_; rintro e w4 ⟨rfl, hp⟩; replace hd := hd.pu hp; replace hbel := hbel.trans (Below.mono hp hbel.size)))
      go_ret
      exact ⟨rfl, hp1.trans hbel⟩
end Go.Proofs.Ytdjbhbefghihcaa
