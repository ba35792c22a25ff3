/- The document's carry. -/
import Derived.Test.YtfbnaemnblannaaGreatU1
set_option linter.unusedSimpArgs false
set_option linter.unusedVariables false
set_option linter.unusedSimpArgs false
set_option linter.unusedVariables false
namespace Go.Esc
open Go Go.RowKit
/-- Numbers as cells. -/
def ds (l : List Nat) : List Value := l.map fun x : Nat => .int .i64 (x : Int)
theorem ds_length (l : List Nat) : (ds l).length = l.length := by simp [ds]
theorem ds_set (l : List Nat) (i x : Nat) : (ds l).set i (.int .i64 (x : Int)) = ds (l.set i x) := by simp [ds, List.map_set]
theorem ds_get (l : List Nat) (i : Nat) (h : i < l.length) : (ds l)[i]? = some (.int .i64 (l.getD i 0 : Nat)) := by
  simp [ds, List.getElem?_eq_getElem h]
theorem ds_one (l : List Nat) : ∀ v ∈ ds l, v.oneCell' = true := by simp [ds, Value.oneCell']
theorem ds_snoc (l : List Nat) (x : Nat) : ds l ++ [.int .i64 (x : Int)] = ds (l ++ [x]) := by simp [ds]
theorem ds_take (l : List Nat) (n : Nat) : (ds l).take n = ds (l.take n) := by simp [ds]
theorem Row.dig {w : World} {g : Nat} {e : TypeId} {l : List Nat} (h : Row w g e (ds l)) (j : Nat) (hj : j < l.length) : w.cell? ⟨g, j, none⟩ = some (.int .i64 (l.getD j 0 : Nat)) := by
  rw [h.cell' j (by rw [ds_length]; exact hj), ds_get l j hj]
/-- What carry leaves. -/
def CarryPost (e0 : TypeId) (x : List Nat) (w : World) (e : Ending) (w' : World) : Prop :=
  ∃ (out : List Nat) (g cap : Nat), e = .returned (.slice (some ⟨g, 0, none⟩) out.length cap) ∧ out.length ≤ cap ∧ Carried x out ∧ w.heap.size ≤ g ∧ Row w' g e0 (ds out) ∧ Pu w w'
theorem getD_le40 {x : List Nat} {b : Nat} (h : ∀ d ∈ x, d ≤ b) (k : Nat) (hk : k < x.length) : x.getD k 0 ≤ b := by
  simp only [List.getD_eq_getElem?_getD, List.getElem?_eq_getElem hk]; exact h _ (List.getElem_mem hk)
theorem own_cap {w : World} {base e size : Nat} {g n cap : Nat} {xs : List Value} (h : w.ownsRow base e size (.slice (some ⟨g, 0, none⟩) n cap) n xs) : n ≤ cap := by
  rcases h.2 with ⟨h', _⟩ | ⟨g', cap', cur, h', _, _, hnc, _⟩
  · simp at h'
  · simp only [Value.slice.injEq] at h'
    obtain ⟨-, -, rfl⟩ := h'; exact hnc
end Go.Esc
namespace Go.Proofs.YtfbnaemnblannaaGreat
open Go.RowKit Go.Esc
set_option maxRecDepth 100000 in
set_option maxHeartbeats 3200000 in
theorem refCarry (x : List Nat) (g cap : Nat) (w : World) (hrow : Row w g 3 (ds x)) (hxb : ∀ d ∈ x, d ≤ 1099511627776) (hxl : x.length ≤ 100) :
    Calls Tryz.prog 103 #[.slice (some ⟨g, 0, none⟩) x.length cap] w (CarryPost 3 x w) := by
  have hgl := hrow.lt
  obtain ⟨ii, hi, hz0, hz1, hz2⟩ := info_parts infoI
  have HB := Lib.hid hxb
  clear hxb
  go_enter Tryz.func103, Tryz.ntmps103
  go_wp2_with fail
  go_loopw [3, 4, 5] (fun o cv kv wr => ∃ (k c cap : Nat) (a : Option Addr) (out : List Nat), o = .slice a k cap ∧ cv = .int .i64 (c : Int) ∧ kv = .int .i64 (k : Int) ∧ wr.ownsRow w.heap.size 3 1 (.slice a k cap) k (ds out) ∧ Carry x k out c ∧ k ≤ x.length + 6 ∧ (leV x < 256 ^ x.length → k ≤ x.length) ∧ Below w.heap.size w wr) (fun _ _ kv _ => x.length + 7 - (intOf kv).toNat)
  case atStart => exact ⟨0, 0, 0, none, [], rfl, rfl, rfl, World.ownsRow_nil _ _ _ _, Carry.start x, by omega, fun _ => Nat.zero_le _, Pu.refl w⟩
  case round =>
    obtain ⟨k, c, cap, a, out, rfl, rfl, rfl, hown, hcar, hk6, hkf, hbel⟩ := hrel
    have hlt' := hown.lt
    have hcb := hcar.bound
    have hbw := hbel.size
    have HF := Lib.hid hkf
    clear hkf
    by_cases hkn : k < x.length
    · have hcr := hcar.round HB.out hkn
      have hxk := getD_le40 HB.out k hkn
      obtain ⟨xk, hxke⟩ : ∃ v, v = x.getD k 0 := ⟨_, rfl⟩
      obtain ⟨s, hs⟩ : ∃ s, s = c + xk := ⟨_, rfl⟩
      obtain ⟨r, hr⟩ : ∃ r, r = s % 256 := ⟨_, rfl⟩
      obtain ⟨q, hq⟩ : ∃ q, q = s / 256 := ⟨_, rfl⟩
      rw [← hxke] at hcr hxk
      rw [← hs, ← hr, ← hq] at hcr
      have hcell : wr.cell? ⟨g, k, none⟩ = some (.int .i64 (xk : Int)) := by
        have := Row.dig (hrow.below hbel hgl) k hkn
        rw [← hxke] at this; exact this
      have e1 : (c : Int) + xk = s := by omega
      have e1w : IntKind.i64.wrap (s : Int) = s := by rw [IntKind.wrap_i64]; omega
      have e2 : (s : Int).tmod 256 = r := by rw [Int.tmod_eq_emod_of_nonneg (by omega)]; omega
      have e2' : (s : Int) % 256 = r := by omega
      have e3 : (s : Int).tdiv 256 = q := by rw [Int.tdiv_eq_ediv_of_nonneg (by omega)]; omega
      have e3' : (s : Int) / 256 = q := by omega
      have e3w : IntKind.i64.wrap (q : Int) = q := by rw [IntKind.wrap_i64]; omega
      have hk0 : (0 : Int) ≤ k := by omega
      have hkx : (k : Int) < x.length := by omega
      have hmx : k + 1 ≤ maxLen := by unfold maxLen; omega
      have HCR := Lib.hid hcr
      clear hcr hxke hs hr hq hcar
      go_wp2_with (refine wpList_append_mine rfl (.tmp 26) (.tmp 29) 95 rfl w.heap.size 3 ii (.int .i64 0) 1 8 Tryz.underlying95 hi hz0 hz1 hz2 rfl (by decide) (.slice a k cap) k (ds out) (by rfl) (hown.alloc _) ⟨wr.heap.size, 0, none⟩ 1 1 [.int .i64 (r : Int)] (by rfl) rfl (one_cell rfl) (by simp [Value.oneCell']) hmx (by omega) (by simp; omega) ?_; intro v2 w2 hown2 hgrow2)
      obtain ⟨a2, cap2, rfl, hlt2⟩ := own_slice hown2
      rw [ds_snoc] at hown2
      go_roundw
      case rel =>
        have hf := HF.out
        have h9 := (hbel.alloc hbw _).grown hgrow2 (by simp; omega) (fun j hj => (hlt' j hj).1)
        first | exact ⟨k + 1, q, cap2, a2, out ++ [r], rfl, rfl, by go_num, hown2, HCR.out, by omega, fun _ => by omega, h9⟩ | ((repeat apply Exists.intro); exact ⟨⟨k + 1, q, cap2, a2, out ++ [r], rfl, rfl, by go_num, hown2, HCR.out, by omega, fun _ => by omega, h9⟩, rfl⟩)
      case measure => simp [intOf]; omega
    · have hkn2 : decide ((k : Int) < x.length) = false := by simp; omega
      have hkn3 : ¬ ((k : Int) < x.length) := by omega
      by_cases hc0 : 0 < c
      · have hcr := hcar.more (by omega)
        have hlong := hcar.long hc0
        have hfits : leV x < 256 ^ x.length → c = 0 := fun h => hcar.fits h (by omega)
        obtain ⟨r, hr⟩ : ∃ r, r = c % 256 := ⟨_, rfl⟩
        obtain ⟨q, hq⟩ : ∃ q, q = c / 256 := ⟨_, rfl⟩
        rw [← hr, ← hq] at hcr
        have e2 : (c : Int).tmod 256 = r := by rw [Int.tmod_eq_emod_of_nonneg (by omega)]; omega
        have e2' : (c : Int) % 256 = r := by omega
        have e3 : (c : Int).tdiv 256 = q := by rw [Int.tdiv_eq_ediv_of_nonneg (by omega)]; omega
        have e3' : (c : Int) / 256 = q := by omega
        have e3w : IntKind.i64.wrap (q : Int) = q := by rw [IntKind.wrap_i64]; omega
        have hc0' : (0 : Int) < c := by omega
        have hmx : k + 1 ≤ maxLen := by unfold maxLen; omega
        have HCR := Lib.hid hcr
        have HFI := Lib.hid hfits
        clear hcr hr hq hcar hfits
        go_wp2_with (refine wpList_append_mine rfl (.tmp 26) (.tmp 29) 95 rfl w.heap.size 3 ii (.int .i64 0) 1 8 Tryz.underlying95 hi hz0 hz1 hz2 rfl (by decide) (.slice a k cap) k (ds out) (by rfl) (hown.alloc _) ⟨wr.heap.size, 0, none⟩ 1 1 [.int .i64 (r : Int)] (by rfl) rfl (one_cell rfl) (by simp [Value.oneCell']) hmx (by omega) (by simp; omega) ?_; intro v2 w2 hown2 hgrow2)
        obtain ⟨a2, cap2, rfl, hlt2⟩ := own_slice hown2
        rw [ds_snoc] at hown2
        go_roundw
        case rel =>
          have hf := HFI.out
          have h9 := (hbel.alloc hbw _).grown hgrow2 (by simp; omega) (fun j hj => (hlt' j hj).1)
          have h10 : leV x < 256 ^ x.length → k + 1 ≤ x.length := fun h => by have := hf h; omega
          first | exact ⟨k + 1, q, cap2, a2, out ++ [r], rfl, rfl, by go_num, hown2, HCR.out, by omega, h10, h9⟩ | ((repeat apply Exists.intro); exact ⟨⟨k + 1, q, cap2, a2, out ++ [r], rfl, rfl, by go_num, hown2, HCR.out, by omega, h10, h9⟩, rfl⟩)
        case measure => simp [intOf]; omega
      · obtain rfl : c = 0 := by omega
        have hol := hcar.len
        have hst := hcar.stop (by omega) hk6 (fun h => by have := HF.out h; omega)
        have HST := Lib.hid hst
        clear hst hcar
        go_wp2_with fail
        obtain ⟨wo, hwo⟩ : ∃ wo : World, wo = wr := ⟨_, rfl⟩
        rw [← hwo] at hown hlt' hbel hbw ⊢
        clear hwo
        go_loopw [3] (fun o wq => ∃ (j n cap : Nat) (a : Option Addr), o = .slice a n cap ∧ n = out.length + j ∧ (j ≤ 18 - out.length) ∧ wq.ownsRow w.heap.size 3 1 (.slice a n cap) n (ds (out ++ List.replicate j 0)) ∧ Below w.heap.size w wq) (fun o _ => match o with | .slice _ n _ => 18 - n | _ => 0)
        case atStart => exact ⟨0, k, cap, a, rfl, by omega, by omega, by simpa using hown, hbel⟩
        case round =>
          clear hown hbel hlt' hbw
          obtain ⟨j, n, cap3, a3, rfl, hn, hj, hown, hbel⟩ := hrel
          have hlt' := hown.lt
          have hbw := hbel.size
          by_cases h18 : n < 18
          · have h18' : (n : Int) < 18 := by omega
            have hmx : n + 1 ≤ maxLen := by unfold maxLen; omega
            have HN := Lib.hid hn
            clear hn
            go_wp2_with (refine wpList_append_mine rfl (.tmp 36) (.tmp 37) 95 rfl w.heap.size 3 ii (.int .i64 0) 1 8 Tryz.underlying95 hi hz0 hz1 hz2 rfl (by decide) (.slice a3 n cap3) n (ds (out ++ List.replicate j 0)) (by rfl) (hown.alloc _) ⟨wr.heap.size, 0, none⟩ 1 1 [.int .i64 ((0 : Nat) : Int)] (by rfl) rfl (one_cell rfl) (by simp [Value.oneCell']) hmx (by omega) (by simp; omega) ?_; intro v2 w2 hown2 hgrow2)
            obtain ⟨a2, cap2, rfl, hlt2⟩ := own_slice hown2
            rw [ds_snoc, List.append_assoc, ← List.replicate_succ'] at hown2
            go_roundw
            case rel =>
              have hn := HN.out
              have h9 := (hbel.alloc hbw _).grown hgrow2 (by simp; omega) (fun j hj => (hlt' j hj).1)
              exact ⟨j + 1, n + 1, cap2, a2, rfl, by omega, by omega, hown2, h9⟩
            case measure => simp; omega
          · have h18' : decide ((n : Int) < 18) = false := by simp; omega
            obtain ⟨g2, hv, hg2, hg2'⟩ : ∃ g, a3 = some ⟨g, 0, none⟩ ∧ w.heap.size ≤ g ∧ g < wr.heap.size := by
              obtain ⟨g, cap, hv, hb, hg⟩ := own_form hown (by omega)
              simp only [Value.slice.injEq] at hv
              exact ⟨g, hv.1, hb, hg⟩
            subst hv
            have hje : j = 18 - out.length := by omega
            have hrow2 := Row.own hown
            have hcap := own_cap hown
            rw [hje] at hrow2
            have hlen2 : (out ++ List.replicate (18 - out.length) 0).length = n := by simp; omega
            obtain ⟨o2, ho2⟩ : ∃ o2, o2 = out ++ List.replicate (18 - out.length) 0 := ⟨_, rfl⟩
            have hst := HST.out
            rw [← ho2] at hrow2 hlen2 hst
            have HST2 := Lib.hid hst
            clear hst HST hown hje ho2 hn
            go_wp2_with fail
            go_ret
            exact ⟨o2, g2, cap3, by rw [hlen2]; rfl, by omega, HST2.out, hg2, hrow2, hbel⟩
set_option maxRecDepth 100000 in
set_option maxHeartbeats 3200000 in
theorem refCarryNil (w : World) :
    Calls Tryz.prog 103 #[.slice none 0 0] w (CarryPost 3 [] w) := by
  obtain ⟨ii, hi, hz0, hz1, hz2⟩ := info_parts infoI
  obtain ⟨x, hx⟩ : ∃ x : List Nat, x = [] := ⟨_, rfl⟩
  have hst : Carried x (([] : List Nat) ++ List.replicate (18 - ([] : List Nat).length) 0) := by rw [hx]; exact (Carry.start []).stop (Nat.le_refl _) (by omega) (fun _ => rfl)
  rw [← hx]
  obtain ⟨out, hout⟩ : ∃ x : List Nat, x = [] := ⟨_, rfl⟩
  rw [← hout] at hst
  have hol : out.length = 0 := by rw [hout]; rfl
  have HST := Lib.hid hst
  have HX := Lib.hid hx
  have HOUT := Lib.hid hout
  clear hst hx hout
  go_enter Tryz.func103, Tryz.ntmps103
  go_wp2_with fail
  go_loopw [3, 4, 5] (fun o cv kv wr => o = .slice none 0 0 ∧ cv = .int .i64 0 ∧ kv = .int .i64 0 ∧ wr = w) (fun _ _ _ _ => 0)
  case atStart => exact ⟨rfl, rfl, rfl, rfl⟩
  case round =>
    obtain ⟨rfl, rfl, rfl, hwr⟩ := hrel
    subst wr
    go_wp2_with fail
    have hown : w.ownsRow w.heap.size 3 1 (.slice none 0 0) 0 (ds (out ++ List.replicate 0 0)) := by rw [HOUT.out]; exact World.ownsRow_nil _ _ _ _
    have hbel := Pu.refl w
    have hlt' := hown.lt
    have hbw := hbel.size
    go_loopw [3] (fun o wq => ∃ (j n cap : Nat) (a : Option Addr), o = .slice a n cap ∧ n = out.length + j ∧ (j ≤ 18 - out.length) ∧ wq.ownsRow w.heap.size 3 1 (.slice a n cap) n (ds (out ++ List.replicate j 0)) ∧ Below w.heap.size w wq) (fun o _ => match o with | .slice _ n _ => 18 - n | _ => 0)
    case atStart => exact ⟨0, 0, 0, none, rfl, by omega, by omega, hown, hbel⟩
    case round =>
      clear hown hbel hlt' hbw
      obtain ⟨j, n, cap3, a3, rfl, hn, hj, hown, hbel⟩ := hrel
      have hlt' := hown.lt
      have hbw := hbel.size
      by_cases h18 : n < 18
      · have h18' : (n : Int) < 18 := by omega
        have hmx : n + 1 ≤ maxLen := by unfold maxLen; omega
        have HN := Lib.hid hn
        clear hn
        go_wp2_with (refine wpList_append_mine rfl (.tmp 36) (.tmp 37) 95 rfl w.heap.size 3 ii (.int .i64 0) 1 8 Tryz.underlying95 hi hz0 hz1 hz2 rfl (by decide) (.slice a3 n cap3) n (ds (out ++ List.replicate j 0)) (by rfl) (hown.alloc _) ⟨wr.heap.size, 0, none⟩ 1 1 [.int .i64 ((0 : Nat) : Int)] (by rfl) rfl (one_cell rfl) (by simp [Value.oneCell']) hmx (by omega) (by simp; omega) ?_; intro v2 w2 hown2 hgrow2)
        obtain ⟨a2, cap2, rfl, hlt2⟩ := own_slice hown2
        rw [ds_snoc, List.append_assoc, ← List.replicate_succ'] at hown2
        go_roundw
        case rel =>
          have hn := HN.out
          have h9 := (hbel.alloc hbw _).grown hgrow2 (by simp; omega) (fun j hj => (hlt' j hj).1)
          exact ⟨j + 1, n + 1, cap2, a2, rfl, by omega, by omega, hown2, h9⟩
        case measure => simp; omega
      · have h18' : decide ((n : Int) < 18) = false := by simp; omega
        obtain ⟨g2, hv, hg2, hg2'⟩ : ∃ g, a3 = some ⟨g, 0, none⟩ ∧ w.heap.size ≤ g ∧ g < wr.heap.size := by
          obtain ⟨g, cap, hv, hb, hg⟩ := own_form hown (by omega)
          simp only [Value.slice.injEq] at hv
          exact ⟨g, hv.1, hb, hg⟩
        subst hv
        have hje : j = 18 - out.length := by omega
        have hrow2 := Row.own hown
        have hcap := own_cap hown
        rw [hje] at hrow2
        have hlen2 : (out ++ List.replicate (18 - out.length) 0).length = n := by simp; omega
        obtain ⟨o2, ho2⟩ : ∃ o2, o2 = out ++ List.replicate (18 - out.length) 0 := ⟨_, rfl⟩
        have hst := HST.out
        rw [← ho2] at hrow2 hlen2 hst
        have HST2 := Lib.hid hst
        clear hst HST hown hje ho2 hn
        go_wp2_with fail
        go_ret
        exact ⟨o2, g2, cap3, by rw [hlen2]; rfl, by omega, HST2.out, hg2, hrow2, hbel⟩
end Go.Proofs.YtfbnaemnblannaaGreat
