/- The document's carry. The document's fold. -/
import Derived.Test.YtoakccknimoogaaGreatU1
import Derived.Deep.OwnRows
set_option linter.unusedSimpArgs false
set_option linter.unusedVariables false
set_option linter.unusedSimpArgs false
set_option linter.unusedVariables false
namespace Go.Esc
open Go Go.RowKit
/-- Numbers as cells. -/
def ds (l : List Nat) : List Value := l.map fun x : Nat => .int .i64 (x : Int)
theorem ds_length (l : List Nat) : (ds l).length = l.length := by simp [ds]
theorem ds_set (l : List Nat) (i x : Nat) : (ds l).set i (.int .i64 (x : Int)) = ds (l.set i x) := by simp [ds, List.map_set]
theorem ds_get (l : List Nat) (i : Nat) (h : i < l.length) : (ds l)[i]? = some (.int .i64 (l.getD i 0 : Nat)) := by
 simp [ds, List.getElem?_eq_getElem h]
theorem ds_one (l : List Nat) : ∀ v ∈ ds l, v.oneCell' = true := by simp [ds, Value.oneCell']
theorem ds_snoc (l : List Nat) (x : Nat) : ds l ++ [.int .i64 (x : Int)] = ds (l ++ [x]) := by simp [ds]
theorem ds_take (l : List Nat) (n : Nat) : (ds l).take n = ds (l.take n) := by simp [ds]
theorem Row.dig {w : World} {g : Nat} {e : TypeId} {l : List Nat} (h : Row w g e (ds l)) (j : Nat) (hj : j < l.length) : w.cell? ⟨g, j, none⟩ = some (.int .i64 (l.getD j 0 : Nat)) := by
 rw [h.cell' j (by rw [ds_length]; exact hj), ds_get l j hj]
/-- What carry leaves. -/
def CarryPost (e0 : TypeId) (x : List Nat) (w : World) (e : Ending) (w' : World) : Prop :=
 ∃ (out : List Nat) (g cap : Nat), e = .returned (.slice (some ⟨g, 0, none⟩) out.length cap) ∧ out.length ≤ cap ∧ Carried x out ∧ w.heap.size ≤ g ∧ Row w' g e0 (ds out) ∧ Pu w w'
theorem getD_le40 {x : List Nat} {b : Nat} (h : ∀ d ∈ x, d ≤ b) (k : Nat) (hk : k < x.length) : x.getD k 0 ≤ b := by
 simp only [List.getD_eq_getElem?_getD, List.getElem?_eq_getElem hk]; exact h _ (List.getElem_mem hk)
theorem own_cap {w : World} {base e size : Nat} {g n cap : Nat} {xs : List Value} (h : w.ownsRow base e size (.slice (some ⟨g, 0, none⟩) n cap) n xs) : n ≤ cap := by
 rcases h.2 with ⟨h', _⟩ | ⟨g', cap', cur, h', _, _, hnc, _⟩
 · simp at h'
 · simp only [Value.slice.injEq] at h'
   obtain ⟨-, -, rfl⟩ := h'; exact hnc
end Go.Esc
namespace Go.Proofs.YtoakccknimoogaaGreat
open Go.RowKit Go.Esc
set_option maxRecDepth 100000 in
set_option maxHeartbeats 3200000 in
theorem refCarry (x : List Nat) (g cap : Nat) (w : World) (hrow : Row w g 3 (ds x)) (hxb : ∀ d ∈ x, d ≤ 1099511627776) (hxl : x.length ≤ 100) :
 Calls Tryz.prog 125 #[.slice (some ⟨g, 0, none⟩) x.length cap] w (CarryPost 3 x w) := by
 have hgl := hrow.lt
 obtain ⟨ii, hi, hz0, hz1, hz2⟩ := info_parts infoI
 have HB := Lib.hid hxb
 clear hxb
 go_enter Tryz.func125, Tryz.ntmps125
 go_wp2_with fail
 go_loopw [3, 4, 5] (fun o cv kv wr => ∃ (k c cap : Nat) (a : Option Addr) (out : List Nat), o = .slice a k cap ∧ cv = .int .i64 (c : Int) ∧ kv = .int .i64 (k : Int) ∧ wr.ownsRow w.heap.size 3 1 (.slice a k cap) k (ds out) ∧ Carry x k out c ∧ k ≤ x.length + 6 ∧ (leV x < 256 ^ x.length → k ≤ x.length) ∧ Below w.heap.size w wr) (fun _ _ kv _ => x.length + 7 - (intOf kv).toNat)
 case atStart => exact ⟨0, 0, 0, none, [], rfl, rfl, rfl, World.ownsRow_nil _ _ _ _, Carry.start x, by omega, fun _ => Nat.zero_le _, Pu.refl w⟩
 case round =>
  obtain ⟨k, c, cap, a, out, rfl, rfl, rfl, hown, hcar, hk6, hkf, hbel⟩ := hrel
  have hlt' := hown.lt
  have hcb := hcar.bound
  have hbw := hbel.size
  have HF := Lib.hid hkf
  clear hkf
  by_cases hkn : k < x.length
  · have hcr := hcar.round HB.out hkn
    have hxk := getD_le40 HB.out k hkn
    obtain ⟨xk, hxke⟩ : ∃ v, v = x.getD k 0 := ⟨_, rfl⟩
    obtain ⟨s, hs⟩ : ∃ s, s = c + xk := ⟨_, rfl⟩
    obtain ⟨r, hr⟩ : ∃ r, r = s % 256 := ⟨_, rfl⟩
    obtain ⟨q, hq⟩ : ∃ q, q = s / 256 := ⟨_, rfl⟩
    rw [← hxke] at hcr hxk
    rw [← hs, ← hr, ← hq] at hcr
    have hcell : wr.cell? ⟨g, k, none⟩ = some (.int .i64 (xk : Int)) := by
     have := Row.dig (hrow.below hbel hgl) k hkn
     rw [← hxke] at this; exact this
    have e1 : (c : Int) + xk = s := by omega
    have e1w : IntKind.i64.wrap (s : Int) = s := by rw [IntKind.wrap_i64]; omega
    have e2 : (s : Int).tmod 256 = r := by rw [Int.tmod_eq_emod_of_nonneg (by omega)]; omega
    have e2' : (s : Int) % 256 = r := by omega
    have e3 : (s : Int).tdiv 256 = q := by rw [Int.tdiv_eq_ediv_of_nonneg (by omega)]; omega
    have e3' : (s : Int) / 256 = q := by omega
    have e3w : IntKind.i64.wrap (q : Int) = q := by rw [IntKind.wrap_i64]; omega
    have hk0 : (0 : Int) ≤ k := by omega
    have hkx : (k : Int) < x.length := by omega
    have hmx : k + 1 ≤ maxLen := by unfold maxLen; omega
    have HCR := Lib.hid hcr
    clear hcr hxke hs hr hq hcar
    go_wp2_with (refine wpList_append_mine rfl (.tmp 26) (.tmp 29) 30 rfl w.heap.size 3 ii (.int .i64 0) 1 8 Tryz.underlying30 hi hz0 hz1 hz2 rfl (by decide) (.slice a k cap) k (ds out) (by rfl) (hown.alloc _) ⟨wr.heap.size, 0, none⟩ 1 1 [.int .i64 (r : Int)] (by rfl) rfl (one_cell rfl) (by simp [Value.oneCell']) hmx (by omega) (by simp; omega) ?_; intro v2 w2 hown2 hgrow2)
    obtain ⟨a2, cap2, rfl, hlt2⟩ := own_slice hown2
    rw [ds_snoc] at hown2
    go_roundw
    case rel =>
     have hf := HF.out
     have h9 := (hbel.alloc hbw _).grown hgrow2 (by simp; omega) (fun j hj => (hlt' j hj).1)
     first | exact ⟨k + 1, q, cap2, a2, out ++ [r], rfl, rfl, by go_num, hown2, HCR.out, by omega, fun _ => by omega, h9⟩ | ((repeat apply Exists.intro); exact ⟨⟨k + 1, q, cap2, a2, out ++ [r], rfl, rfl, by go_num, hown2, HCR.out, by omega, fun _ => by omega, h9⟩, rfl⟩)
    case measure => simp [intOf]; omega
  · have hkn2 : decide ((k : Int) < x.length) = false := by simp; omega
    have hkn3 : ¬ ((k : Int) < x.length) := by omega
    by_cases hc0 : 0 < c
    · have hcr := hcar.more (by omega)
      have hlong := hcar.long hc0
      have hfits : leV x < 256 ^ x.length → c = 0 := fun h => hcar.fits h (by omega)
      obtain ⟨r, hr⟩ : ∃ r, r = c % 256 := ⟨_, rfl⟩
      obtain ⟨q, hq⟩ : ∃ q, q = c / 256 := ⟨_, rfl⟩
      rw [← hr, ← hq] at hcr
      have e2 : (c : Int).tmod 256 = r := by rw [Int.tmod_eq_emod_of_nonneg (by omega)]; omega
      have e2' : (c : Int) % 256 = r := by omega
      have e3 : (c : Int).tdiv 256 = q := by rw [Int.tdiv_eq_ediv_of_nonneg (by omega)]; omega
      have e3' : (c : Int) / 256 = q := by omega
      have e3w : IntKind.i64.wrap (q : Int) = q := by rw [IntKind.wrap_i64]; omega
      have hc0' : (0 : Int) < c := by omega
      have hmx : k + 1 ≤ maxLen := by unfold maxLen; omega
      have HCR := Lib.hid hcr
      have HFI := Lib.hid hfits
      clear hcr hr hq hcar hfits
      go_wp2_with (refine wpList_append_mine rfl (.tmp 26) (.tmp 29) 30 rfl w.heap.size 3 ii (.int .i64 0) 1 8 Tryz.underlying30 hi hz0 hz1 hz2 rfl (by decide) (.slice a k cap) k (ds out) (by rfl) (hown.alloc _) ⟨wr.heap.size, 0, none⟩ 1 1 [.int .i64 (r : Int)] (by rfl) rfl (one_cell rfl) (by simp [Value.oneCell']) hmx (by omega) (by simp; omega) ?_; intro v2 w2 hown2 hgrow2)
      obtain ⟨a2, cap2, rfl, hlt2⟩ := own_slice hown2
      rw [ds_snoc] at hown2
      go_roundw
      case rel =>
       have hf := HFI.out
       have h9 := (hbel.alloc hbw _).grown hgrow2 (by simp; omega) (fun j hj => (hlt' j hj).1)
       have h10 : leV x < 256 ^ x.length → k + 1 ≤ x.length := fun h => by have := hf h; omega
       first | exact ⟨k + 1, q, cap2, a2, out ++ [r], rfl, rfl, by go_num, hown2, HCR.out, by omega, h10, h9⟩ | ((repeat apply Exists.intro); exact ⟨⟨k + 1, q, cap2, a2, out ++ [r], rfl, rfl, by go_num, hown2, HCR.out, by omega, h10, h9⟩, rfl⟩)
      case measure => simp [intOf]; omega
    · obtain rfl : c = 0 := by omega
      have hol := hcar.len
      have hst := hcar.stop (by omega) hk6 (fun h => by have := HF.out h; omega)
      have HST := Lib.hid hst
      clear hst hcar
      go_wp2_with fail
      obtain ⟨wo, hwo⟩ : ∃ wo : World, wo = wr := ⟨_, rfl⟩
      rw [← hwo] at hown hlt' hbel hbw ⊢
      clear hwo
      go_loopw [3] (fun o wq => ∃ (j n cap : Nat) (a : Option Addr), o = .slice a n cap ∧ n = out.length + j ∧ (j ≤ 18 - out.length) ∧ wq.ownsRow w.heap.size 3 1 (.slice a n cap) n (ds (out ++ List.replicate j 0)) ∧ Below w.heap.size w wq) (fun o _ => match o with | .slice _ n _ => 18 - n | _ => 0)
      case atStart => exact ⟨0, k, cap, a, rfl, by omega, by omega, by simpa using hown, hbel⟩
      case round =>
       clear hown hbel hlt' hbw
       obtain ⟨j, n, cap3, a3, rfl, hn, hj, hown, hbel⟩ := hrel
       have hlt' := hown.lt
       have hbw := hbel.size
       by_cases h18 : n < 18
       · have h18' : (n : Int) < 18 := by omega
         have hmx : n + 1 ≤ maxLen := by unfold maxLen; omega
         have HN := Lib.hid hn
         clear hn
         go_wp2_with (refine wpList_append_mine rfl (.tmp 36) (.tmp 37) 30 rfl w.heap.size 3 ii (.int .i64 0) 1 8 Tryz.underlying30 hi hz0 hz1 hz2 rfl (by decide) (.slice a3 n cap3) n (ds (out ++ List.replicate j 0)) (by rfl) (hown.alloc _) ⟨wr.heap.size, 0, none⟩ 1 1 [.int .i64 ((0 : Nat) : Int)] (by rfl) rfl (one_cell rfl) (by simp [Value.oneCell']) hmx (by omega) (by simp; omega) ?_; intro v2 w2 hown2 hgrow2)
         obtain ⟨a2, cap2, rfl, hlt2⟩ := own_slice hown2
         rw [ds_snoc, List.append_assoc, ← List.replicate_succ'] at hown2
         go_roundw
         case rel =>
          have hn := HN.out
          have h9 := (hbel.alloc hbw _).grown hgrow2 (by simp; omega) (fun j hj => (hlt' j hj).1)
          exact ⟨j + 1, n + 1, cap2, a2, rfl, by omega, by omega, hown2, h9⟩
         case measure => simp; omega
       · have h18' : decide ((n : Int) < 18) = false := by simp; omega
         obtain ⟨g2, hv, hg2, hg2'⟩ : ∃ g, a3 = some ⟨g, 0, none⟩ ∧ w.heap.size ≤ g ∧ g < wr.heap.size := by
          obtain ⟨g, cap, hv, hb, hg⟩ := own_form hown (by omega)
          simp only [Value.slice.injEq] at hv
          exact ⟨g, hv.1, hb, hg⟩
         subst hv
         have hje : j = 18 - out.length := by omega
         have hrow2 := Row.own hown
         have hcap := own_cap hown
         rw [hje] at hrow2
         have hlen2 : (out ++ List.replicate (18 - out.length) 0).length = n := by simp; omega
         obtain ⟨o2, ho2⟩ : ∃ o2, o2 = out ++ List.replicate (18 - out.length) 0 := ⟨_, rfl⟩
         have hst := HST.out
         rw [← ho2] at hrow2 hlen2 hst
         have HST2 := Lib.hid hst
         clear hst HST hown hje ho2 hn
         go_wp2_with fail
         go_ret
         exact ⟨o2, g2, cap3, by rw [hlen2]; rfl, by omega, HST2.out, hg2, hrow2, hbel⟩
set_option maxRecDepth 100000 in
set_option maxHeartbeats 3200000 in
theorem refCarryNil (w : World) :
 Calls Tryz.prog 125 #[.slice none 0 0] w (CarryPost 3 [] w) := by
 obtain ⟨ii, hi, hz0, hz1, hz2⟩ := info_parts infoI
 obtain ⟨x, hx⟩ : ∃ x : List Nat, x = [] := ⟨_, rfl⟩
 have hst : Carried x (([] : List Nat) ++ List.replicate (18 - ([] : List Nat).length) 0) := by rw [hx]; exact (Carry.start []).stop (Nat.le_refl _) (by omega) (fun _ => rfl)
 rw [← hx]
 obtain ⟨out, hout⟩ : ∃ x : List Nat, x = [] := ⟨_, rfl⟩
 rw [← hout] at hst
 have hol : out.length = 0 := by rw [hout]; rfl
 have HST := Lib.hid hst
 have HX := Lib.hid hx
 have HOUT := Lib.hid hout
 clear hst hx hout
 go_enter Tryz.func125, Tryz.ntmps125
 go_wp2_with fail
 go_loopw [3, 4, 5] (fun o cv kv wr => o = .slice none 0 0 ∧ cv = .int .i64 0 ∧ kv = .int .i64 0 ∧ wr = w) (fun _ _ _ _ => 0)
 case atStart => exact ⟨rfl, rfl, rfl, rfl⟩
 case round =>
  obtain ⟨rfl, rfl, rfl, hwr⟩ := hrel
  subst wr
  go_wp2_with fail
  have hown : w.ownsRow w.heap.size 3 1 (.slice none 0 0) 0 (ds (out ++ List.replicate 0 0)) := by rw [HOUT.out]; exact World.ownsRow_nil _ _ _ _
  have hbel := Pu.refl w
  have hlt' := hown.lt
  have hbw := hbel.size
  go_loopw [3] (fun o wq => ∃ (j n cap : Nat) (a : Option Addr), o = .slice a n cap ∧ n = out.length + j ∧ (j ≤ 18 - out.length) ∧ wq.ownsRow w.heap.size 3 1 (.slice a n cap) n (ds (out ++ List.replicate j 0)) ∧ Below w.heap.size w wq) (fun o _ => match o with | .slice _ n _ => 18 - n | _ => 0)
  case atStart => exact ⟨0, 0, 0, none, rfl, by omega, by omega, hown, hbel⟩
  case round =>
   clear hown hbel hlt' hbw
   obtain ⟨j, n, cap3, a3, rfl, hn, hj, hown, hbel⟩ := hrel
   have hlt' := hown.lt
   have hbw := hbel.size
   by_cases h18 : n < 18
   · have h18' : (n : Int) < 18 := by omega
     have hmx : n + 1 ≤ maxLen := by unfold maxLen; omega
     have HN := Lib.hid hn
     clear hn
     go_wp2_with (refine wpList_append_mine rfl (.tmp 36) (.tmp 37) 30 rfl w.heap.size 3 ii (.int .i64 0) 1 8 Tryz.underlying30 hi hz0 hz1 hz2 rfl (by decide) (.slice a3 n cap3) n (ds (out ++ List.replicate j 0)) (by rfl) (hown.alloc _) ⟨wr.heap.size, 0, none⟩ 1 1 [.int .i64 ((0 : Nat) : Int)] (by rfl) rfl (one_cell rfl) (by simp [Value.oneCell']) hmx (by omega) (by simp; omega) ?_; intro v2 w2 hown2 hgrow2)
     obtain ⟨a2, cap2, rfl, hlt2⟩ := own_slice hown2
     rw [ds_snoc, List.append_assoc, ← List.replicate_succ'] at hown2
     go_roundw
     case rel =>
      have hn := HN.out
      have h9 := (hbel.alloc hbw _).grown hgrow2 (by simp; omega) (fun j hj => (hlt' j hj).1)
      exact ⟨j + 1, n + 1, cap2, a2, rfl, by omega, by omega, hown2, h9⟩
     case measure => simp; omega
   · have h18' : decide ((n : Int) < 18) = false := by simp; omega
     obtain ⟨g2, hv, hg2, hg2'⟩ : ∃ g, a3 = some ⟨g, 0, none⟩ ∧ w.heap.size ≤ g ∧ g < wr.heap.size := by
      obtain ⟨g, cap, hv, hb, hg⟩ := own_form hown (by omega)
      simp only [Value.slice.injEq] at hv
      exact ⟨g, hv.1, hb, hg⟩
     subst hv
     have hje : j = 18 - out.length := by omega
     have hrow2 := Row.own hown
     have hcap := own_cap hown
     rw [hje] at hrow2
     have hlen2 : (out ++ List.replicate (18 - out.length) 0).length = n := by simp; omega
     obtain ⟨o2, ho2⟩ : ∃ o2, o2 = out ++ List.replicate (18 - out.length) 0 := ⟨_, rfl⟩
     have hst := HST.out
     rw [← ho2] at hrow2 hlen2 hst
     have HST2 := Lib.hid hst
     clear hst HST hown hje ho2 hn
     go_wp2_with fail
     go_ret
     exact ⟨o2, g2, cap3, by rw [hlen2]; rfl, by omega, HST2.out, hg2, hrow2, hbel⟩
end Go.Proofs.YtoakccknimoogaaGreat
set_option linter.unusedSimpArgs false
set_option linter.unusedVariables false
namespace Go.Esc
open Go Go.RowKit
/-- The value of the digits that a slice shows. -/
def rdL (w : World) : Value → Nat
 | .slice (some a) n _ => leV ((List.range n).map fun j => match w.cell? (a.add j) with | some (.int _ z) => z.toNat | _ => 0)
 | _ => 0
theorem rdL_row {w : World} {g cap : Nat} {e : TypeId} {x : List Nat} (h : Row w g e (ds x)) : rdL w (.slice (some ⟨g, 0, none⟩) x.length cap) = leV x := by
 simp only [rdL]
 congr 1
 apply List.ext_getElem
 · simp
 · intro i h1 h2
   have hc := Row.dig h i h2
   have ha : (⟨g, 0, none⟩ : Addr).add i = ⟨g, i, none⟩ := by unfold Addr.add; split <;> simp_all
   simp only [List.getElem_map, List.getElem_range, ha, hc]
   simp [List.getD_eq_getElem?_getD, List.getElem?_eq_getElem h2]
/-- What fold leaves. -/
def FoldPost (e0 : TypeId) (x : List Nat) (w : World) (e : Ending) (w' : World) : Prop :=
 ∃ (out : List Nat) (g cap : Nat), e = .returned (.slice (some ⟨g, 0, none⟩) 18 cap) ∧ Folded x out ∧ 18 ≤ cap ∧ w.heap.size ≤ g ∧ Row w' g e0 (ds out) ∧ Pu w w'
theorem set_bound {z : List Nat} {i v b b' : Nat} (h : ∀ d ∈ z, d ≤ b) (hb : b ≤ b') (hv : v ≤ b') : ∀ d ∈ z.set i v, d ≤ b' := by
 intro d hd
 rcases List.mem_or_eq_of_mem_set hd with h1 | h1
 · exact Nat.le_trans (h d h1) hb
 · omega
theorem foldAt_part (x : List Nat) (k : Nat) (h : 16 ≤ k) (hx : k < x.length) (p : Nat) (hp : p = x.getD k 0 / 4 + (if k + 1 < x.length then x.getD (k+1) 0 % 4 * 64 else 0)) :
 foldAt x (k+1) = foldAt x k + (if k = 16 then 256 ^ 16 * (x.getD 16 0 % 4) else 0) + 256 ^ (k - 16) * (5 * p) := by rw [hp]; exact foldAt_high x k h hx
theorem highAt_part (x : List Nat) (k : Nat) (h : 16 ≤ k) (hx : k < x.length) (p : Nat) (hp : p = x.getD k 0 / 4 + (if k + 1 < x.length then x.getD (k+1) 0 % 4 * 64 else 0)) :
 highAt x (k+1) = (highAt x k || decide (0 < p)) := by
 have hq := qd_get (x.drop 16) (k - 16) (by simp; omega)
 simp only [List.getD_eq_getElem?_getD, List.getElem?_drop, List.length_drop] at hq
 rw [show 16 + (k - 16) = k by omega, show 16 + (k - 16 + 1) = k + 1 by omega] at hq
 have e3 : (k - 16 + 1 < x.length - 16) ↔ (k + 1 < x.length) := by omega
 simp only [e3] at hq
 rw [highAt_succ, List.getD_eq_getElem?_getD, hq, hp]
 simp [h]
theorem highAt_low (x : List Nat) (k : Nat) (h : k < 16) : highAt x (k+1) = highAt x k := by
 rw [highAt_succ]; simp [show ¬ 16 ≤ k by omega]
end Go.Esc
namespace Go.Proofs.YtoakccknimoogaaGreat
open Go.RowKit Go.Esc
theorem boolOf {a b : Bool} {p : Nat} (h : a = (b || decide (0 < p))) (hb : false = b) : Value.bool (decide (0 < p)) = Value.bool a := by
 rw [h, ← hb, Bool.false_or]
theorem madeD (n : Nat) : (madeCells (Value.cells (.int .i64 0)) (n * 1)).toList = ds (List.replicate n 0) := by
 show (madeCells #[.int .i64 0] (n*1)).toList = _
 rw [toList_madeCells_one]; simp [ds]
set_option maxRecDepth 100000 in
set_option maxHeartbeats 3200000 in
theorem refFold (x : List Nat) (g cap : Nat) (w : World) (hrow : Row w g 3 (ds x)) (hxb : ∀ d ∈ x, d ≤ 1099511627776) (hxl : 18 ≤ x.length) (hxl2 : x.length ≤ 60) :
 Calls Tryz.prog 126 #[.slice (some ⟨g, 0, none⟩) x.length cap] w (FoldPost 3 x w) := by
 obtain ⟨ii, hi, hz0, hz1, hz2⟩ := info_parts infoI
 go_enter Tryz.func126, Tryz.ntmps126
 go_wp2_with fail
 go_loopw [0] (fun v wr => ∃ (x' : List Nat) (g' cap' : Nat), v = .slice (some ⟨g', 0, none⟩) x'.length cap' ∧ Row wr g' 3 (ds x') ∧ (∀ d ∈ x', d ≤ 1099511627776) ∧ 18 ≤ x'.length ∧ x'.length ≤ 66 ∧ (x'.length ≤ 60 ∨ leV x' < 256 ^ x'.length) ∧ leV x' % polyP = leV x % polyP ∧ Below w.heap.size w wr) (fun v wr => rdL wr v)
 case atStart => exact ⟨x, g, cap, rfl, hrow, hxb, hxl, by omega, .inl hxl2, rfl, Pu.refl w⟩
 case round =>
  clear hrow hxb hxl hxl2
  obtain ⟨x', g', cap', rfl, hrx, hxb, hxl, hxl2, hxf, hxm, hbel⟩ := hrel
  have hrd := rdL_row (cap := cap') hrx
  have hbw := hbel.size
  have HXF := Lib.hid hxf
  have HXM := Lib.hid hxm
  have HRD := Lib.hid hrd
  have HXB := Lib.hid hxb
  clear hxf hxm hrd hxb
  go_wp2_with (first
   | (go_at_call 125; refine (refCarry x' g' cap' _ hrx HXB.out (by omega)).mono ?_; rintro e w2 ⟨y, gy, cy, rfl, hycap, hcar, hgy, hry, hp2⟩
      have hylen : y.length ≤ 66 := by
       rcases HXF.out with h | h
       · have := hcar.most; omega
       · have := hcar.fit h; omega
      have hyl18 := hcar.long)
   | (at_make; refine wpList_make_full _ rfl _ _ 30 rfl w2.heap.size 3 ii (.int .i64 0) 1 Tryz.underlying30 hi hz0 hz1 _ _ _ _ y.length rfl rfl rfl rfl (by rw [hz2]; omega) (by unfold maxLen; omega) (Nat.le_refl _) ?_; intro w3 hown hgrow))
  rw [madeD] at hown
  have hrz := Row.own hown
  have hpu3 : Pu w2 w3 := ⟨hgrow.os, hgrow.tape, hgrow.output, hgrow.size, fun j hj => hgrow.block j hj (by simp [Value.ownBlock])⟩
  have hbel3 := hbel.trans (Below.mono (Pu.trans hp2 hpu3) hbw)
  have hgz : w.heap.size ≤ w2.heap.size := by have := hp2.size; omega
  have hgyw : w.heap.size ≤ gy := by omega
  have hgyl := hry.lt
  replace hry := hry.pu hpu3
  obtain ⟨gz, hgze⟩ : ∃ gz, gz = w2.heap.size := ⟨_, rfl⟩
  rw [← hgze] at hrz hgz hgyl ⊢
  have hys : ∀ k, k < y.length → y.getD k 0 ≤ 255 := by
   intro k hk
   have := getD_le40 (b := 255) (fun d hd => by have := hcar.small d hd; omega) k hk
   exact this
  have hne : gy ≠ gz := by omega
  have HC := Lib.hid hcar
  have HYS := Lib.hid hys
  clear hown hgrow hpu3 hbel hrx hp2 hcar hys hgze hgyl
  go_loopw [3, 5] (fun hv kv wq => ∃ (k : Nat) (z : List Nat), k ≤ y.length ∧ kv = .int .i64 (k : Int) ∧ hv = .bool (highAt y k) ∧ z.length = y.length ∧ leV z = foldAt y k ∧ (∀ d ∈ z, d ≤ 4000 * k) ∧ Row wq gz 3 (ds z) ∧ Row wq gy 3 (ds y) ∧ Below w.heap.size w wq) (fun _ kv _ => y.length - (intOf kv).toNat)
  case atStart => exact ⟨0, List.replicate y.length 0, by omega, rfl, rfl, by simp, by rw [leV_zeros, foldAt_zero], by intro d hd; rw [(List.mem_replicate.1 hd).2]; omega, hrz, hry, hbel3⟩
  case round =>
   clear hrz hry hbel3
   obtain ⟨k, z, hk, rfl, rfl, hzl, hzv, hzb, hz, hy, hbel⟩ := hrel
   have hys := HYS.out
   have HZL := Lib.hid hzl
   by_cases hkn : k < y.length
   · have hkx : (k : Int) < y.length := by omega
     by_cases hk16 : k < 16
     · have hk16' : (k : Int) < 16 := by omega
       have hzk := getD_le40 hzb k (by omega)
       have hyk := hys k hkn
       have hlow := foldAt_low y k hk16 hkn
       have hhi := highAt_low y k hk16
       obtain ⟨zk, hzke⟩ : ∃ v, v = z.getD k 0 := ⟨_, rfl⟩
       obtain ⟨yk, hyke⟩ : ∃ v, v = y.getD k 0 := ⟨_, rfl⟩
       obtain ⟨v, hv⟩ : ∃ v, v = zk + yk := ⟨_, rfl⟩
       have hset := leV_set z k yk (by omega)
       rw [← hzke] at hset hzk
       rw [← hv, hzv] at hset
       rw [← hyke] at hlow hyk
       rw [← hlow] at hset
       have e1 : (zk : Int) + yk = v := by omega
       have e1w : IntKind.i64.wrap (v : Int) = v := by rw [IntKind.wrap_i64]; omega
       have hk0 : (0 : Int) ≤ k := by omega
       have hvb : v ≤ 4000 * (k + 1) := by omega
       have HSET := Lib.hid hset
       have HZK := Lib.hid hzke
       have HYK := Lib.hid hyke
       have HHI := Lib.hid hhi
       clear hset hzke hyke hhi hlow hv hzv hys hzl
       go_wp2_with fail
       apply region_last (n := 12) (hn := by kernel_rfl) (hlast := rfl) (hU := by kernel_rfl) (Φs := (Is _ :: Is _ :: Is _ :: Is _ :: Is _ :: Is _ :: Is _ :: Is _ :: Is _ :: Is _ :: Is _ :: Is _ :: [])) (hm := by kernel_rfl) (hE := by kernel_rfl) (hD := by kernel_rfl) (hsize := by kernel_rfl)
       case hop =>
        refine ⟨?_, ?_, ?_, ?_, ?_, ?_, ?_, ?_, ?_, ?_, ?_, ?_, trivial⟩
        · intro a' w' hs hp he
          have e4 := hs 4 (by kernel_rfl)
          try simp [Is, Region.binds] at he
          exact op_v
        · intro a' w' hs hp he
          have e5 := hs 5 (by kernel_rfl)
          try simp [Is, Region.binds] at he
          exact op_v
        · intro a' w' hs hp he
          have e4 := hs 4 (by kernel_rfl)
          try simp [Is, Region.binds] at he
          exact op_v
        · intro a' w' hs hp he
          have e5 := hs 5 (by kernel_rfl)
          try simp [Is, Region.binds] at he
          exact op_v
        · intro a' w' hs hp he
          try simp [Is, Region.binds] at he
          exact op_v
        · intro a' w' hs hp he
          try simp [Is, Region.binds] at he
          have c := Row.dig (hz.pu hp) k (by have := HZL.out; omega); rw [← HZK.out] at c; exact op_val rfl (wanted_none rfl) (by first | (go_simp; done) | (go_simp; rfl)) rfl (Pu.refl _)
        · intro a' w' hs hp he
          have e0 := hs 0 (by kernel_rfl)
          try simp [Is, Region.binds] at he
          exact op_v
        · intro a' w' hs hp he
          have e5 := hs 5 (by kernel_rfl)
          try simp [Is, Region.binds] at he
          exact op_v
        · intro a' w' hs hp he
          try simp [Is, Region.binds] at he
          exact op_v
        · intro a' w' hs hp he
          try simp [Is, Region.binds] at he
          have c := Row.dig (hy.pu hp) k hkn; rw [← HYK.out] at c; exact op_val rfl (wanted_none rfl) (by first | (go_simp; done) | (go_simp; rfl)) rfl (Pu.refl _)
        · intro a' w' hs hp he
          try simp [Is, Region.binds] at he
          exact op_v
        · intro a' w' hs hp he
          try simp [Is, Region.binds] at he
          exact op_v
       case hend =>
        intro a' w' hdef hsz hs hp hall
        obtain ⟨r0, r1, r2, r3, r4, r5, r6, r7, r8, r9, r10, r11, -⟩ := hall
        have hA := agree_done (agree_step (agree_step (agree_step (agree_step (agree_step (agree_step (agree_step (agree_step (agree_step (agree_step (agree_step (agree_step (agree_init [20, 21, 22, 23, 24, 25, 26, 27, 28, 29, 30, 31] hsz hs (by kernel_rfl)) r0) r1) r2) r3) r4) r5) r6) r7) r8) r9) r10) r11)
        have ha := act_of hA hdef
        rw [ha]
        clear ha hA hs hsz hdef r0 r1 r2 r3 r4 r5 r6 r7 r8 r9 r10 r11 
        (try simp only [List.setIfInBounds_toArray])
        (try dsimp only [List.set_cons_zero, List.set_cons_succ])
        (try simp only [Exit.then])
        have c := Row.dig (hz.pu hp) k (by have := HZL.out; omega); rw [← HZK.out] at c; have hf := (hz.pu hp).frozen k (by rw [ds_length]; have := HZL.out; omega)
        refine op_done rfl (wanted_none rfl) (by first | (go_simp; done) | (go_simp; rfl)) ?_
        (try simp only [Exit.inBlock, Exit.then])
        go_wp2_with fail
        go_roundw
        case rel =>
         have hzl := HZL.out
         replace hbel := hbel.trans (Below.mono hp hbel.size)
         have h1 := (hz.pu hp).set k (.int .i64 (v : Int))
         rw [ds_set] at h1
         have h2 := (hy.pu hp).setOther (⟨gz, k, none⟩ : Addr) (.int .i64 (v : Int)) (by simp; omega)
         have h3 := hbel.setCell (p := (⟨gz, k, none⟩ : Addr)) (by simp; omega) (.int .i64 (v : Int))
         have h5 : ∀ e ∈ z.set k v, e ≤ 4000 * (k + 1) := set_bound hzb (by omega) hvb
         have h6 : (z.set k v).length = y.length := by rw [List.length_set, hzl]
         first | exact ⟨k + 1, z.set k v, by omega, by go_num, by rw [HHI.out], h6, HSET.out, h5, h1, h2, h3⟩ | ((repeat apply Exists.intro); exact ⟨⟨k + 1, z.set k v, by omega, by go_num, by rw [HHI.out], h6, HSET.out, h5, h1, h2, h3⟩, rfl⟩)
        case measure => simp [intOf]; omega
     · by_cases hke : k = 16
       · have q16 : ((k : Int) == 16) = true := by simp; omega
         have q16' : decide ((k : Int) = 16) = true := by simp; omega
         have hk16d : decide ((k : Int) < 16) = false := by simp; omega
         have hzk := getD_le40 hzb 16 (by omega)
         have hyk := hys 16 (by omega)
         obtain ⟨z16, hz16e⟩ : ∃ v, v = z.getD 16 0 := ⟨_, rfl⟩
         obtain ⟨y16, hy16e⟩ : ∃ v, v = y.getD 16 0 := ⟨_, rfl⟩
         obtain ⟨m16, hm16⟩ : ∃ v, v = y16 % 4 := ⟨_, rfl⟩
         obtain ⟨v, hv⟩ : ∃ v, v = z16 + m16 := ⟨_, rfl⟩
         have hset := leV_set z 16 m16 (by omega)
         rw [← hz16e] at hset hzk
         rw [← hv, hzv] at hset
         rw [← hy16e] at hyk
         have e0 : (y16 : Int).tmod 4 = m16 := by rw [Int.tmod_eq_emod_of_nonneg (by omega)]; omega
         have e0' : (y16 : Int) % 4 = m16 := by omega
         have e1 : (z16 : Int) + m16 = v := by omega
         have e1w : IntKind.i64.wrap (v : Int) = v := by rw [IntKind.wrap_i64]; omega
         have h16n : (16 : Int) < y.length := by omega
         have hzv2' : leV (z.set 16 v) = foldAt y k + (if k = 16 then 256 ^ 16 * (y.getD 16 0 % 4) else 0) := by rw [if_pos hke, ← hy16e, ← hm16, hset]
         have hzb2' : ∀ e ∈ z.set 16 v, e ≤ 4000 * k + 300 := set_bound hzb (by omega) (by omega)
         have hzl2' : (z.set 16 v).length = y.length := by rw [List.length_set, hzl]
         have HZ16 := Lib.hid hz16e
         have HY16 := Lib.hid hy16e
         have HKE := Lib.hid hke
         have HZV2 := Lib.hid hzv2'
         have HZL2 := Lib.hid hzl2'
         clear hset hz16e hy16e hm16 hv hke hzv2' hzl2'
         go_wp2_with fail
         apply region_last (n := 10) (hn := by kernel_rfl) (hlast := rfl) (hU := by kernel_rfl) (Φs := (Is _ :: Is _ :: Is _ :: Is _ :: Is _ :: Is _ :: Is _ :: Is _ :: Is _ :: Is _ :: [])) (hm := by kernel_rfl) (hE := by kernel_rfl) (hD := by kernel_rfl) (hsize := by kernel_rfl)
         case hop =>
          refine ⟨?_, ?_, ?_, ?_, ?_, ?_, ?_, ?_, ?_, ?_, trivial⟩
          · intro a' w' hs hp he
            have e4 := hs 4 (by kernel_rfl)
            try simp [Is, Region.binds] at he
            exact op_v
          · intro a' w' hs hp he
            have e4 := hs 4 (by kernel_rfl)
            try simp [Is, Region.binds] at he
            exact op_v
          · intro a' w' hs hp he
            try simp [Is, Region.binds] at he
            exact op_v
          · intro a' w' hs hp he
            try simp [Is, Region.binds] at he
            have c := Row.dig (hz.pu hp) 16 (by omega); rw [← HZ16.out] at c; exact op_val rfl (wanted_none rfl) (by first | (go_simp; done) | (go_simp; rfl)) rfl (Pu.refl _)
          · intro a' w' hs hp he
            have e0 := hs 0 (by kernel_rfl)
            try simp [Is, Region.binds] at he
            exact op_v
          · intro a' w' hs hp he
            try simp [Is, Region.binds] at he
            exact op_v
          · intro a' w' hs hp he
            try simp [Is, Region.binds] at he
            have c := Row.dig (hy.pu hp) 16 (by omega); rw [← HY16.out] at c; exact op_val rfl (wanted_none rfl) (by first | (go_simp; done) | (go_simp; rfl)) rfl (Pu.refl _)
          · intro a' w' hs hp he
            try simp [Is, Region.binds] at he
            exact op_v
          · intro a' w' hs hp he
            try simp [Is, Region.binds] at he
            exact op_v
          · intro a' w' hs hp he
            try simp [Is, Region.binds] at he
            exact op_v
         case hend =>
          intro a' w' hdef hsz hs hp hall
          obtain ⟨r0, r1, r2, r3, r4, r5, r6, r7, r8, r9, -⟩ := hall
          have hA := agree_done (agree_step (agree_step (agree_step (agree_step (agree_step (agree_step (agree_step (agree_step (agree_step (agree_step (agree_init [34, 35, 36, 37, 38, 39, 40, 41, 42, 43] hsz hs (by kernel_rfl)) r0) r1) r2) r3) r4) r5) r6) r7) r8) r9)
          have ha := act_of hA hdef
          rw [ha]
          clear ha hA hs hsz hdef r0 r1 r2 r3 r4 r5 r6 r7 r8 r9 
          (try simp only [List.setIfInBounds_toArray])
          (try dsimp only [List.set_cons_zero, List.set_cons_succ])
          (try simp only [Exit.then])
          have c := Row.dig (hz.pu hp) 16 (by omega); rw [← HZ16.out] at c; have hf := (hz.pu hp).frozen 16 (by rw [ds_length]; omega)
          refine op_done rfl (wanted_none rfl) (by first | (go_simp; done) | (go_simp; rfl)) ?_
          (try simp only [Exit.inBlock, Exit.then])
          have hz2 := (hz.pu hp).set 16 (.int .i64 (v : Int))
          rw [ds_set] at hz2
          have hy2 := (hy.pu hp).setOther (⟨gz, 16, none⟩ : Addr) (.int .i64 (v : Int)) (by simp; omega)
          have hbel2 := (hbel.trans (Below.mono hp hbel.size)).setCell (p := (⟨gz, 16, none⟩ : Addr)) (by simp; omega) (.int .i64 (v : Int))
          obtain ⟨z2, hz2e⟩ : ∃ z2, z2 = z.set 16 v := ⟨_, rfl⟩
          have hzv2 := HZV2.out
          have hzl2 := HZL2.out
          rw [← hz2e] at hz2 hzv2 hzb2' hzl2
          have hzb2 := hzb2'
          obtain ⟨w5, hw5⟩ : ∃ w5, w5 = w'.setCell ⟨gz, 16, none⟩ (.int .i64 (v : Int)) := ⟨_, rfl⟩
          rw [← hw5] at hz2 hy2 hbel2 ⊢
          clear hw5 hz2e hzb2' HZV2 HZL2 hz hy hbel hp hzb hzv hzl
          have hyk := hys k hkn
          have hck := Row.dig hy2 k hkn
          obtain ⟨yk, hyke⟩ : ∃ v, v = y.getD k 0 := ⟨_, rfl⟩
          rw [← hyke] at hck hyk
          obtain ⟨pa, hpa⟩ : ∃ v, v = yk / 4 := ⟨_, rfl⟩
          have f1 : (yk : Int).tdiv 4 = pa := by rw [Int.tdiv_eq_ediv_of_nonneg (by omega)]; omega
          have f1' : (yk : Int) / 4 = pa := by omega
          have f1w : IntKind.i64.wrap (pa : Int) = pa := by rw [IntKind.wrap_i64]; omega
          have hpal : pa ≤ 63 := by omega
          have hk0 : (0 : Int) ≤ k := by omega
          have hkx : (k : Int) < y.length := by omega
          have f2 : IntKind.i64.wrap ((k : Int) + 1) = k + 1 := by rw [IntKind.wrap_i64]; omega
          have f2n : ((k : Int) + 1).toNat = k + 1 := by omega
          have f20 : (0 : Int) ≤ (k : Int) + 1 := by omega
          have hk16d : decide ((k : Int) < 16) = false := by simp; omega
          by_cases hk1 : k + 1 < y.length
          · have hk1' : (k : Int) + 1 < y.length := by omega
            have hyk1 := hys (k+1) hk1
            have hck1 := Row.dig hy2 (k+1) hk1
            obtain ⟨y1, hy1e⟩ : ∃ v, v = y.getD (k+1) 0 := ⟨_, rfl⟩
            rw [← hy1e] at hck1 hyk1
            obtain ⟨m1, hm1⟩ : ∃ v, v = y1 % 4 := ⟨_, rfl⟩
            obtain ⟨m64, hm64⟩ : ∃ v, v = m1 * 64 := ⟨_, rfl⟩
            obtain ⟨p, hpp⟩ : ∃ v, v = pa + m64 := ⟨_, rfl⟩
            have f3 : (y1 : Int).tmod 4 = m1 := by rw [Int.tmod_eq_emod_of_nonneg (by omega)]; omega
            have f3' : (y1 : Int) % 4 = m1 := by omega
            have f4 : (m1 : Int) * 64 = m64 := by omega
            have f4w : IntKind.i64.wrap (m64 : Int) = m64 := by rw [IntKind.wrap_i64]; omega
            have f5 : (pa : Int) + m64 = p := by omega
            have f5w : IntKind.i64.wrap (p : Int) = p := by rw [IntKind.wrap_i64]; omega
            have hp : p = y.getD k 0 / 4 + (if k + 1 < y.length then y.getD (k+1) 0 % 4 * 64 else 0) := by rw [if_pos hk1, ← hyke, ← hy1e, hpp, hpa, hm64, hm1]
            have hpl : p ≤ 255 := by omega
            clear hyke hpa hy1e hm1 hm64 hpp
            have hz2b := hzb2
            have hzp := getD_le40 hz2b (k - 16) (by omega)
            obtain ⟨zp, hzpe⟩ : ∃ v, v = z2.getD (k - 16) 0 := ⟨_, rfl⟩
            obtain ⟨v5, hv5⟩ : ∃ v, v = zp + 5 * p := ⟨_, rfl⟩
            obtain ⟨p5, hp5⟩ : ∃ v, v = 5 * p := ⟨_, rfl⟩
            rw [← hzpe] at hzp
            have hcp := Row.dig hz2 (k - 16) (by omega)
            rw [← hzpe] at hcp
            have hfp := hz2.frozen (k - 16) (by rw [ds_length]; omega)
            have hset := leV_set z2 (k - 16) (5 * p) (by omega)
            rw [← hzpe, ← hv5] at hset
            obtain ⟨d, hd⟩ : ∃ d, d = k - 16 := ⟨_, rfl⟩
            rw [← hd] at hcp hfp hset
            have g0 : (k : Int) - 16 = d := by omega
            have g0w : IntKind.i64.wrap (d : Int) = d := by rw [IntKind.wrap_i64]; omega
            have g1 : (5 : Int) * p = p5 := by omega
            have g1w : IntKind.i64.wrap (p5 : Int) = p5 := by rw [IntKind.wrap_i64]; omega
            have g2 : (zp : Int) + p5 = v5 := by omega
            have g2w : IntKind.i64.wrap (v5 : Int) = v5 := by rw [IntKind.wrap_i64]; omega
            have hd0 : (0 : Int) ≤ d := by omega
            have hdn : (d : Int) < y.length := by omega
            have hfold := foldAt_part y k (by omega) hkn p hp
            have hhigh := highAt_part y k (by omega) hkn p hp
            have hv5b : v5 ≤ 4000 * (k + 1) := by omega
            have hzv2 : leV z2 = foldAt y k + (if k = 16 then 256 ^ 16 * (y.getD 16 0 % 4) else 0) := hzv2
            have HSET := Lib.hid hset
            have HFOLD := Lib.hid hfold
            have HHIGH := Lib.hid hhigh
            have HD := Lib.hid hd
            have hdk : d + 16 = k := by omega
            clear hzpe hv5 hp5 hset hfold hhigh hd hp
            obtain ⟨b, hb⟩ : ∃ b, b = highAt y k := ⟨_, rfl⟩
            rw [← hb]
            have HHB := Lib.hid hb
            cases b with
            | true =>
              skip
              clear hb
              go_wp2_with fail
              go_roundw
              case rel =>
               have h1 := hz2.set d (.int .i64 (v5 : Int))
               rw [ds_set] at h1
               have h2 := hy2.setOther (⟨gz, d, none⟩ : Addr) (.int .i64 (v5 : Int)) (by simp; omega)
               have h3 := hbel2.setCell (p := (⟨gz, d, none⟩ : Addr)) (by simp; omega) (.int .i64 (v5 : Int))
               have h4 : leV (z2.set d v5) = foldAt y (k + 1) := by rw [HSET.out, HFOLD.out, hzv2, HD.out]
               have h5 : ∀ e ∈ z2.set d v5, e ≤ 4000 * (k + 1) := set_bound hzb2 (by omega) hv5b
               have h6 : (z2.set d v5).length = y.length := by rw [List.length_set, hzl2]
               have h7 := HHIGH.out
               first | exact ⟨k + 1, z2.set d v5, by omega, by go_num, (by rw [h7, ← HHB.out, Bool.true_or]), h6, h4, h5, h1, h2, h3⟩ | ((repeat apply Exists.intro); exact ⟨⟨k + 1, z2.set d v5, by omega, by go_num, (by rw [h7, ← HHB.out, Bool.true_or]), h6, h4, h5, h1, h2, h3⟩, rfl⟩)
              case measure => simp [intOf]; omega
            | false =>
              skip
              clear hb
              go_wp2_with fail
              go_roundw
              case rel =>
               have h1 := hz2.set d (.int .i64 (v5 : Int))
               rw [ds_set] at h1
               have h2 := hy2.setOther (⟨gz, d, none⟩ : Addr) (.int .i64 (v5 : Int)) (by simp; omega)
               have h3 := hbel2.setCell (p := (⟨gz, d, none⟩ : Addr)) (by simp; omega) (.int .i64 (v5 : Int))
               have h4 : leV (z2.set d v5) = foldAt y (k + 1) := by rw [HSET.out, HFOLD.out, hzv2, HD.out]
               have h5 : ∀ e ∈ z2.set d v5, e ≤ 4000 * (k + 1) := set_bound hzb2 (by omega) hv5b
               have h6 : (z2.set d v5).length = y.length := by rw [List.length_set, hzl2]
               have h7 := HHIGH.out
               first | exact ⟨k + 1, z2.set d v5, by omega, by go_num, (boolOf h7 HHB.out), h6, h4, h5, h1, h2, h3⟩ | ((repeat apply Exists.intro); exact ⟨⟨k + 1, z2.set d v5, by omega, by go_num, (boolOf h7 HHB.out), h6, h4, h5, h1, h2, h3⟩, rfl⟩)
              case measure => simp [intOf]; omega
          · have hk1' : decide ((k : Int) + 1 < y.length) = false := by simp; omega
            obtain ⟨p, hpp⟩ : ∃ v, v = pa := ⟨_, rfl⟩
            have hp : p = y.getD k 0 / 4 + (if k + 1 < y.length then y.getD (k+1) 0 % 4 * 64 else 0) := by rw [if_neg hk1, ← hyke, hpp, hpa]; rfl
            have hpl : p ≤ 255 := by omega
            rw [← hpp] at f1 f1' f1w
            clear hyke hpa hpp
            have hz2b := hzb2
            have hzp := getD_le40 hz2b (k - 16) (by omega)
            obtain ⟨zp, hzpe⟩ : ∃ v, v = z2.getD (k - 16) 0 := ⟨_, rfl⟩
            obtain ⟨v5, hv5⟩ : ∃ v, v = zp + 5 * p := ⟨_, rfl⟩
            obtain ⟨p5, hp5⟩ : ∃ v, v = 5 * p := ⟨_, rfl⟩
            rw [← hzpe] at hzp
            have hcp := Row.dig hz2 (k - 16) (by omega)
            rw [← hzpe] at hcp
            have hfp := hz2.frozen (k - 16) (by rw [ds_length]; omega)
            have hset := leV_set z2 (k - 16) (5 * p) (by omega)
            rw [← hzpe, ← hv5] at hset
            obtain ⟨d, hd⟩ : ∃ d, d = k - 16 := ⟨_, rfl⟩
            rw [← hd] at hcp hfp hset
            have g0 : (k : Int) - 16 = d := by omega
            have g0w : IntKind.i64.wrap (d : Int) = d := by rw [IntKind.wrap_i64]; omega
            have g1 : (5 : Int) * p = p5 := by omega
            have g1w : IntKind.i64.wrap (p5 : Int) = p5 := by rw [IntKind.wrap_i64]; omega
            have g2 : (zp : Int) + p5 = v5 := by omega
            have g2w : IntKind.i64.wrap (v5 : Int) = v5 := by rw [IntKind.wrap_i64]; omega
            have hd0 : (0 : Int) ≤ d := by omega
            have hdn : (d : Int) < y.length := by omega
            have hfold := foldAt_part y k (by omega) hkn p hp
            have hhigh := highAt_part y k (by omega) hkn p hp
            have hv5b : v5 ≤ 4000 * (k + 1) := by omega
            have hzv2 : leV z2 = foldAt y k + (if k = 16 then 256 ^ 16 * (y.getD 16 0 % 4) else 0) := hzv2
            have HSET := Lib.hid hset
            have HFOLD := Lib.hid hfold
            have HHIGH := Lib.hid hhigh
            have HD := Lib.hid hd
            have hdk : d + 16 = k := by omega
            clear hzpe hv5 hp5 hset hfold hhigh hd hp
            obtain ⟨b, hb⟩ : ∃ b, b = highAt y k := ⟨_, rfl⟩
            rw [← hb]
            have HHB := Lib.hid hb
            cases b with
            | true =>
              skip
              clear hb
              go_wp2_with fail
              go_roundw
              case rel =>
               have h1 := hz2.set d (.int .i64 (v5 : Int))
               rw [ds_set] at h1
               have h2 := hy2.setOther (⟨gz, d, none⟩ : Addr) (.int .i64 (v5 : Int)) (by simp; omega)
               have h3 := hbel2.setCell (p := (⟨gz, d, none⟩ : Addr)) (by simp; omega) (.int .i64 (v5 : Int))
               have h4 : leV (z2.set d v5) = foldAt y (k + 1) := by rw [HSET.out, HFOLD.out, hzv2, HD.out]
               have h5 : ∀ e ∈ z2.set d v5, e ≤ 4000 * (k + 1) := set_bound hzb2 (by omega) hv5b
               have h6 : (z2.set d v5).length = y.length := by rw [List.length_set, hzl2]
               have h7 := HHIGH.out
               first | exact ⟨k + 1, z2.set d v5, by omega, by go_num, (by rw [h7, ← HHB.out, Bool.true_or]), h6, h4, h5, h1, h2, h3⟩ | ((repeat apply Exists.intro); exact ⟨⟨k + 1, z2.set d v5, by omega, by go_num, (by rw [h7, ← HHB.out, Bool.true_or]), h6, h4, h5, h1, h2, h3⟩, rfl⟩)
              case measure => simp [intOf]; omega
            | false =>
              skip
              clear hb
              go_wp2_with fail
              go_roundw
              case rel =>
               have h1 := hz2.set d (.int .i64 (v5 : Int))
               rw [ds_set] at h1
               have h2 := hy2.setOther (⟨gz, d, none⟩ : Addr) (.int .i64 (v5 : Int)) (by simp; omega)
               have h3 := hbel2.setCell (p := (⟨gz, d, none⟩ : Addr)) (by simp; omega) (.int .i64 (v5 : Int))
               have h4 : leV (z2.set d v5) = foldAt y (k + 1) := by rw [HSET.out, HFOLD.out, hzv2, HD.out]
               have h5 : ∀ e ∈ z2.set d v5, e ≤ 4000 * (k + 1) := set_bound hzb2 (by omega) hv5b
               have h6 : (z2.set d v5).length = y.length := by rw [List.length_set, hzl2]
               have h7 := HHIGH.out
               first | exact ⟨k + 1, z2.set d v5, by omega, by go_num, (boolOf h7 HHB.out), h6, h4, h5, h1, h2, h3⟩ | ((repeat apply Exists.intro); exact ⟨⟨k + 1, z2.set d v5, by omega, by go_num, (boolOf h7 HHB.out), h6, h4, h5, h1, h2, h3⟩, rfl⟩)
              case measure => simp [intOf]; omega
       · have q16 : ((k : Int) == 16) = false := by simp; omega
         have q16' : ¬ ((k : Int) = 16) := by omega
         have hz2 := hz
         have hy2 := hy
         have hbel2 := hbel
         have hzl2 := hzl
         have hzb2 : ∀ e ∈ z, e ≤ 4000 * k + 300 := fun e he => by have := hzb e he; omega
         have hzv2 : leV z = foldAt y k + (if k = 16 then 256 ^ 16 * (y.getD 16 0 % 4) else 0) := by rw [if_neg hke]; exact hzv
         obtain ⟨z2, hz2e⟩ : ∃ z2, z2 = z := ⟨_, rfl⟩
         rw [← hz2e] at hz2 hzv2 hzb2 hzl2
         clear hz2e hz hy hbel hzb hzv hzl
         have hyk := hys k hkn
         have hck := Row.dig hy2 k hkn
         obtain ⟨yk, hyke⟩ : ∃ v, v = y.getD k 0 := ⟨_, rfl⟩
         rw [← hyke] at hck hyk
         obtain ⟨pa, hpa⟩ : ∃ v, v = yk / 4 := ⟨_, rfl⟩
         have f1 : (yk : Int).tdiv 4 = pa := by rw [Int.tdiv_eq_ediv_of_nonneg (by omega)]; omega
         have f1' : (yk : Int) / 4 = pa := by omega
         have f1w : IntKind.i64.wrap (pa : Int) = pa := by rw [IntKind.wrap_i64]; omega
         have hpal : pa ≤ 63 := by omega
         have hk0 : (0 : Int) ≤ k := by omega
         have hkx : (k : Int) < y.length := by omega
         have f2 : IntKind.i64.wrap ((k : Int) + 1) = k + 1 := by rw [IntKind.wrap_i64]; omega
         have f2n : ((k : Int) + 1).toNat = k + 1 := by omega
         have f20 : (0 : Int) ≤ (k : Int) + 1 := by omega
         have hk16d : decide ((k : Int) < 16) = false := by simp; omega
         by_cases hk1 : k + 1 < y.length
         · have hk1' : (k : Int) + 1 < y.length := by omega
           have hyk1 := hys (k+1) hk1
           have hck1 := Row.dig hy2 (k+1) hk1
           obtain ⟨y1, hy1e⟩ : ∃ v, v = y.getD (k+1) 0 := ⟨_, rfl⟩
           rw [← hy1e] at hck1 hyk1
           obtain ⟨m1, hm1⟩ : ∃ v, v = y1 % 4 := ⟨_, rfl⟩
           obtain ⟨m64, hm64⟩ : ∃ v, v = m1 * 64 := ⟨_, rfl⟩
           obtain ⟨p, hpp⟩ : ∃ v, v = pa + m64 := ⟨_, rfl⟩
           have f3 : (y1 : Int).tmod 4 = m1 := by rw [Int.tmod_eq_emod_of_nonneg (by omega)]; omega
           have f3' : (y1 : Int) % 4 = m1 := by omega
           have f4 : (m1 : Int) * 64 = m64 := by omega
           have f4w : IntKind.i64.wrap (m64 : Int) = m64 := by rw [IntKind.wrap_i64]; omega
           have f5 : (pa : Int) + m64 = p := by omega
           have f5w : IntKind.i64.wrap (p : Int) = p := by rw [IntKind.wrap_i64]; omega
           have hp : p = y.getD k 0 / 4 + (if k + 1 < y.length then y.getD (k+1) 0 % 4 * 64 else 0) := by rw [if_pos hk1, ← hyke, ← hy1e, hpp, hpa, hm64, hm1]
           have hpl : p ≤ 255 := by omega
           clear hyke hpa hy1e hm1 hm64 hpp
           have hz2b := hzb2
           have hzp := getD_le40 hz2b (k - 16) (by omega)
           obtain ⟨zp, hzpe⟩ : ∃ v, v = z2.getD (k - 16) 0 := ⟨_, rfl⟩
           obtain ⟨v5, hv5⟩ : ∃ v, v = zp + 5 * p := ⟨_, rfl⟩
           obtain ⟨p5, hp5⟩ : ∃ v, v = 5 * p := ⟨_, rfl⟩
           rw [← hzpe] at hzp
           have hcp := Row.dig hz2 (k - 16) (by omega)
           rw [← hzpe] at hcp
           have hfp := hz2.frozen (k - 16) (by rw [ds_length]; omega)
           have hset := leV_set z2 (k - 16) (5 * p) (by omega)
           rw [← hzpe, ← hv5] at hset
           obtain ⟨d, hd⟩ : ∃ d, d = k - 16 := ⟨_, rfl⟩
           rw [← hd] at hcp hfp hset
           have g0 : (k : Int) - 16 = d := by omega
           have g0w : IntKind.i64.wrap (d : Int) = d := by rw [IntKind.wrap_i64]; omega
           have g1 : (5 : Int) * p = p5 := by omega
           have g1w : IntKind.i64.wrap (p5 : Int) = p5 := by rw [IntKind.wrap_i64]; omega
           have g2 : (zp : Int) + p5 = v5 := by omega
           have g2w : IntKind.i64.wrap (v5 : Int) = v5 := by rw [IntKind.wrap_i64]; omega
           have hd0 : (0 : Int) ≤ d := by omega
           have hdn : (d : Int) < y.length := by omega
           have hfold := foldAt_part y k (by omega) hkn p hp
           have hhigh := highAt_part y k (by omega) hkn p hp
           have hv5b : v5 ≤ 4000 * (k + 1) := by omega
           have hzv2 : leV z2 = foldAt y k + (if k = 16 then 256 ^ 16 * (y.getD 16 0 % 4) else 0) := hzv2
           have HSET := Lib.hid hset
           have HFOLD := Lib.hid hfold
           have HHIGH := Lib.hid hhigh
           have HD := Lib.hid hd
           have hdk : d + 16 = k := by omega
           clear hzpe hv5 hp5 hset hfold hhigh hd hp
           obtain ⟨b, hb⟩ : ∃ b, b = highAt y k := ⟨_, rfl⟩
           rw [← hb]
           have HHB := Lib.hid hb
           cases b with
           | true =>
             skip
             clear hb
             go_wp2_with fail
             go_roundw
             case rel =>
              have h1 := hz2.set d (.int .i64 (v5 : Int))
              rw [ds_set] at h1
              have h2 := hy2.setOther (⟨gz, d, none⟩ : Addr) (.int .i64 (v5 : Int)) (by simp; omega)
              have h3 := hbel2.setCell (p := (⟨gz, d, none⟩ : Addr)) (by simp; omega) (.int .i64 (v5 : Int))
              have h4 : leV (z2.set d v5) = foldAt y (k + 1) := by rw [HSET.out, HFOLD.out, hzv2, HD.out]
              have h5 : ∀ e ∈ z2.set d v5, e ≤ 4000 * (k + 1) := set_bound hzb2 (by omega) hv5b
              have h6 : (z2.set d v5).length = y.length := by rw [List.length_set, hzl2]
              have h7 := HHIGH.out
              first | exact ⟨k + 1, z2.set d v5, by omega, by go_num, (by rw [h7, ← HHB.out, Bool.true_or]), h6, h4, h5, h1, h2, h3⟩ | ((repeat apply Exists.intro); exact ⟨⟨k + 1, z2.set d v5, by omega, by go_num, (by rw [h7, ← HHB.out, Bool.true_or]), h6, h4, h5, h1, h2, h3⟩, rfl⟩)
             case measure => simp [intOf]; omega
           | false =>
             skip
             clear hb
             go_wp2_with fail
             go_roundw
             case rel =>
              have h1 := hz2.set d (.int .i64 (v5 : Int))
              rw [ds_set] at h1
              have h2 := hy2.setOther (⟨gz, d, none⟩ : Addr) (.int .i64 (v5 : Int)) (by simp; omega)
              have h3 := hbel2.setCell (p := (⟨gz, d, none⟩ : Addr)) (by simp; omega) (.int .i64 (v5 : Int))
              have h4 : leV (z2.set d v5) = foldAt y (k + 1) := by rw [HSET.out, HFOLD.out, hzv2, HD.out]
              have h5 : ∀ e ∈ z2.set d v5, e ≤ 4000 * (k + 1) := set_bound hzb2 (by omega) hv5b
              have h6 : (z2.set d v5).length = y.length := by rw [List.length_set, hzl2]
              have h7 := HHIGH.out
              first | exact ⟨k + 1, z2.set d v5, by omega, by go_num, (boolOf h7 HHB.out), h6, h4, h5, h1, h2, h3⟩ | ((repeat apply Exists.intro); exact ⟨⟨k + 1, z2.set d v5, by omega, by go_num, (boolOf h7 HHB.out), h6, h4, h5, h1, h2, h3⟩, rfl⟩)
             case measure => simp [intOf]; omega
         · have hk1' : decide ((k : Int) + 1 < y.length) = false := by simp; omega
           obtain ⟨p, hpp⟩ : ∃ v, v = pa := ⟨_, rfl⟩
           have hp : p = y.getD k 0 / 4 + (if k + 1 < y.length then y.getD (k+1) 0 % 4 * 64 else 0) := by rw [if_neg hk1, ← hyke, hpp, hpa]; rfl
           have hpl : p ≤ 255 := by omega
           rw [← hpp] at f1 f1' f1w
           clear hyke hpa hpp
           have hz2b := hzb2
           have hzp := getD_le40 hz2b (k - 16) (by omega)
           obtain ⟨zp, hzpe⟩ : ∃ v, v = z2.getD (k - 16) 0 := ⟨_, rfl⟩
           obtain ⟨v5, hv5⟩ : ∃ v, v = zp + 5 * p := ⟨_, rfl⟩
           obtain ⟨p5, hp5⟩ : ∃ v, v = 5 * p := ⟨_, rfl⟩
           rw [← hzpe] at hzp
           have hcp := Row.dig hz2 (k - 16) (by omega)
           rw [← hzpe] at hcp
           have hfp := hz2.frozen (k - 16) (by rw [ds_length]; omega)
           have hset := leV_set z2 (k - 16) (5 * p) (by omega)
           rw [← hzpe, ← hv5] at hset
           obtain ⟨d, hd⟩ : ∃ d, d = k - 16 := ⟨_, rfl⟩
           rw [← hd] at hcp hfp hset
           have g0 : (k : Int) - 16 = d := by omega
           have g0w : IntKind.i64.wrap (d : Int) = d := by rw [IntKind.wrap_i64]; omega
           have g1 : (5 : Int) * p = p5 := by omega
           have g1w : IntKind.i64.wrap (p5 : Int) = p5 := by rw [IntKind.wrap_i64]; omega
           have g2 : (zp : Int) + p5 = v5 := by omega
           have g2w : IntKind.i64.wrap (v5 : Int) = v5 := by rw [IntKind.wrap_i64]; omega
           have hd0 : (0 : Int) ≤ d := by omega
           have hdn : (d : Int) < y.length := by omega
           have hfold := foldAt_part y k (by omega) hkn p hp
           have hhigh := highAt_part y k (by omega) hkn p hp
           have hv5b : v5 ≤ 4000 * (k + 1) := by omega
           have hzv2 : leV z2 = foldAt y k + (if k = 16 then 256 ^ 16 * (y.getD 16 0 % 4) else 0) := hzv2
           have HSET := Lib.hid hset
           have HFOLD := Lib.hid hfold
           have HHIGH := Lib.hid hhigh
           have HD := Lib.hid hd
           have hdk : d + 16 = k := by omega
           clear hzpe hv5 hp5 hset hfold hhigh hd hp
           obtain ⟨b, hb⟩ : ∃ b, b = highAt y k := ⟨_, rfl⟩
           rw [← hb]
           have HHB := Lib.hid hb
           cases b with
           | true =>
             skip
             clear hb
             go_wp2_with fail
             go_roundw
             case rel =>
              have h1 := hz2.set d (.int .i64 (v5 : Int))
              rw [ds_set] at h1
              have h2 := hy2.setOther (⟨gz, d, none⟩ : Addr) (.int .i64 (v5 : Int)) (by simp; omega)
              have h3 := hbel2.setCell (p := (⟨gz, d, none⟩ : Addr)) (by simp; omega) (.int .i64 (v5 : Int))
              have h4 : leV (z2.set d v5) = foldAt y (k + 1) := by rw [HSET.out, HFOLD.out, hzv2, HD.out]
              have h5 : ∀ e ∈ z2.set d v5, e ≤ 4000 * (k + 1) := set_bound hzb2 (by omega) hv5b
              have h6 : (z2.set d v5).length = y.length := by rw [List.length_set, hzl2]
              have h7 := HHIGH.out
              first | exact ⟨k + 1, z2.set d v5, by omega, by go_num, (by rw [h7, ← HHB.out, Bool.true_or]), h6, h4, h5, h1, h2, h3⟩ | ((repeat apply Exists.intro); exact ⟨⟨k + 1, z2.set d v5, by omega, by go_num, (by rw [h7, ← HHB.out, Bool.true_or]), h6, h4, h5, h1, h2, h3⟩, rfl⟩)
             case measure => simp [intOf]; omega
           | false =>
             skip
             clear hb
             go_wp2_with fail
             go_roundw
             case rel =>
              have h1 := hz2.set d (.int .i64 (v5 : Int))
              rw [ds_set] at h1
              have h2 := hy2.setOther (⟨gz, d, none⟩ : Addr) (.int .i64 (v5 : Int)) (by simp; omega)
              have h3 := hbel2.setCell (p := (⟨gz, d, none⟩ : Addr)) (by simp; omega) (.int .i64 (v5 : Int))
              have h4 : leV (z2.set d v5) = foldAt y (k + 1) := by rw [HSET.out, HFOLD.out, hzv2, HD.out]
              have h5 : ∀ e ∈ z2.set d v5, e ≤ 4000 * (k + 1) := set_bound hzb2 (by omega) hv5b
              have h6 : (z2.set d v5).length = y.length := by rw [List.length_set, hzl2]
              have h7 := HHIGH.out
              first | exact ⟨k + 1, z2.set d v5, by omega, by go_num, (boolOf h7 HHB.out), h6, h4, h5, h1, h2, h3⟩ | ((repeat apply Exists.intro); exact ⟨⟨k + 1, z2.set d v5, by omega, by go_num, (boolOf h7 HHB.out), h6, h4, h5, h1, h2, h3⟩, rfl⟩)
             case measure => simp [intOf]; omega
   · obtain rfl : k = y.length := by omega
     have hcar := HC.out
     have hzl := HZL.out
     obtain ⟨b, hb⟩ : ∃ b, b = highAt y y.length := ⟨_, rfl⟩
     rw [← hb]
     have hyn : decide ((y.length : Int) < y.length) = false := by simp
     have hlv := leV_lt hcar.small
     have hcv := hcar.val
     cases b with
     | true =>
       have hless := fold_less (x := y) (by omega) hb.symm
       have hmod := fold_mod (x := y) (by omega)
       rw [← hzv] at hless hmod
       have HXM2 := Lib.hid (hmod.trans (by rw [hcv]; exact HXM.out) : leV z % polyP = leV x % polyP)
       have HLESS := Lib.hid (by rw [← hcv]; exact hless : leV z < leV x')
       have HLV := Lib.hid (by rw [hzl]; omega : leV z < 256 ^ z.length)
       have HZB := Lib.hid hzb
       clear hless hmod hzv hzb hb hlv hcv hcar hys
       go_wp2_with fail
       go_roundw
       case rel =>
        have hzl := HZL.out
        have hzb2 : ∀ d ∈ z, d ≤ 1099511627776 := fun d hd => by have := HZB.out d hd; omega
        have hsl : Value.slice (some ⟨gz, 0, none⟩) y.length y.length = .slice (some ⟨gz, 0, none⟩) z.length y.length := by rw [hzl]
        first | exact ⟨z, gz, y.length, hsl, hz, hzb2, by omega, by omega, .inr HLV.out, HXM2.out, hbel⟩ | ((repeat apply Exists.intro); exact ⟨⟨z, gz, y.length, hsl, hz, hzb2, by omega, by omega, .inr HLV.out, HXM2.out, hbel⟩, rfl⟩)
       case measure =>
        have h1 := rdL_row (cap := y.length) hz
        rw [HZL.out] at h1
        have h2 := HRD.out
        have h3 := HLESS.out
        first | (simp; omega) | (show rdL _ _ < rdL _ _; simp only [h1, h2]; exact h3)
     | false =>
       obtain ⟨hfe, hlow⟩ := low_of (x := y) (fun d hd => hcar.small d hd) (by omega) hb.symm
       have hzv3 : leV z = leV x' := by rw [hzv, hfe, hcv]
       have hzlt : leV z < 2 ^ 130 := by rw [hzv, hfe]; exact hlow
       have HZV3 := Lib.hid hzv3
       have HZLT := Lib.hid hzlt
       have HZB := Lib.hid hzb
       have hbs := hbel.size
       clear hfe hlow hzv hzb hb hlv hcv hcar hys hzv3 hzlt
       have hcl : Calls Tryz.prog 125 #[.slice (some ⟨gz, 0, none⟩) y.length y.length] wr (CarryPost 3 z wr) := by
        have h := refCarry z gz y.length wr hz (fun d hd => by have := HZB.out d hd; omega) (by have := HZL.out; omega)
        rw [HZL.out] at h; exact h
       have HCL := Lib.hid hcl
       clear hcl
       go_wp2_with (go_at_call 125; refine HCL.out.mono ?_; rintro e w6 ⟨o, g6, c6, rfl, hoc, hcar6, hg6, hr6, hp6⟩; have ho18 := hcar6.long)
       go_ret
       refine ⟨o.take 18, g6, c6, rfl, ?_, by omega, by omega, ?_, hbel.trans (Below.mono hp6 hbs)⟩
       · exact Folded.trans (by rw [HZV3.out]; exact HXM.out.symm) (Folded.of hcar6 HZLT.out)
       · have h9 := hr6.take 18
         rw [ds_take] at h9; exact h9
end Go.Proofs.YtoakccknimoogaaGreat
