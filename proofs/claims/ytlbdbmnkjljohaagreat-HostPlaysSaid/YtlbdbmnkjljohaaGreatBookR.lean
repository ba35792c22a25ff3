/- The document's book of users: At, IsLocked, Good. -/
import Derived.Test.YtlbdbmnkjljohaaGreatRefUsers
import Derived.Test.YtlbdbmnkjljohaaGreatRegionB
import Derived.Test.YtlbdbmnkjljohaaGreatT17
set_option linter.unusedSimpArgs false
set_option linter.unusedVariables false
namespace Go.Proofs.YtlbdbmnkjljohaaGreat
open Go.RowKit Go.Esc
def nsL (l : List UserS) : List (Bs × Bs) := l.map fun u => (u.name, u.secret)
def failC (l : List UserS) : List Value := l.map fun u => .int .i64 (u.fails : Int)
def tilC (l : List UserS) : List Value := l.map fun u => .int .i64 u.til
def lockC (l : List UserS) : List Value := l.map fun u => .bool u.locked
theorem nsL_length (l : List UserS) : (nsL l).length = l.length := by simp [nsL]
theorem failC_length (l : List UserS) : (failC l).length = l.length := by simp [failC]
theorem tilC_length (l : List UserS) : (tilC l).length = l.length := by simp [tilC]
theorem lockC_length (l : List UserS) : (lockC l).length = l.length := by simp [lockC]
theorem failC_get {l : List UserS} {i : Nat} (h : i < l.length) : (failC l)[i]? = some (.int .i64 ((l[i]).fails : Int)) := by simp [failC, h]
theorem tilC_get {l : List UserS} {i : Nat} (h : i < l.length) : (tilC l)[i]? = some (.int .i64 (l[i]).til) := by simp [tilC, h]
theorem lockC_get {l : List UserS} {i : Nat} (h : i < l.length) : (lockC l)[i]? = some (.bool (l[i]).locked) := by simp [lockC, h]
theorem nsL_mk (zs : List (Bs × Bs)) : nsL (mkU zs) = zs := by
  unfold nsL mkU
  rw [List.map_map]
  exact List.map_id zs
theorem modN_at {l : List UserS} {n : Bs} {i : Nat} (hp : posN l n = some i) (hi : i < l.length) (f : UserS → UserS) : modN l n f = l.set i (f (l[i])) := by
  unfold modN modU
  rw [hp]
  simp only
  rw [List.getElem?_eq_getElem hi]
theorem modN_none {l : List UserS} {n : Bs} (hp : posN l n = none) (f : UserS → UserS) : modN l n f = l := by
  unfold modN; rw [hp]
theorem nsL_set {l : List UserS} {i : Nat} (hi : i < l.length) {v : UserS} (h1 : v.name = (l[i]).name) (h2 : v.secret = (l[i]).secret) : nsL (l.set i v) = nsL l := by
  unfold nsL
  rw [List.map_set, h1, h2]
  refine List.ext_getElem? fun j => ?_
  rw [List.getElem?_set]
  split
  · next hj =>
    subst hj
    simp [hi]
  · rfl
theorem posN_first {l : List UserS} {n : Bs} {i : Nat} (hi : i < l.length) (h : (l[i]).name = n) (hq : ∀ j (hj : j < l.length), j < i → (l[j]).name ≠ n) : posN l n = some i := by
  unfold posN
  rw [List.findIdx?_eq_some_iff_getElem]
  exact ⟨hi, by simpa using h, fun j hj => by simpa using hq j (by omega) hj⟩
/-- The blocks of a book: the users' row (if there are any), failures, ends, locks. -/
structure BI where
  aL : Option Addr
  cL : Nat
  gL : Nat
  gF : Nat
  gU : Nat
  gK : Nat
def BI.G (x : BI) : Nat → Prop := fun g => g = x.gF ∨ g = x.gU ∨ g = x.gK
structure BookAt (w : World) (bb : Nat) (x : BI) (l : List UserS) : Prop where
  b : Row w bb 80 [.slice x.aL l.length x.cL, .slice (some ⟨x.gF, 0, none⟩) l.length l.length, .slice (some ⟨x.gU, 0, none⟩) l.length l.length, .slice (some ⟨x.gK, 0, none⟩) l.length l.length]
  usr : l ≠ [] → x.aL = some ⟨x.gL, 0, none⟩ ∧ Row w x.gL 23 (flatU (nsL l))
  f : Row w x.gF 3 (failC l)
  u : Row w x.gU 3 (tilC l)
  k : Row w x.gK 4 (lockC l)
  ne : x.gF ≠ x.gU
  len : l.length ≤ 100000
  fb : ∀ u ∈ l, u.fails < 3
section
variable {w w' : World} {bb : Nat} {x : BI} {l : List UserS}
theorem BookAt.pu (h : BookAt w bb x l) (hp : Pu w w') : BookAt w' bb x l := ⟨h.b.pu hp, fun hl => ⟨(h.usr hl).1, (h.usr hl).2.pu hp⟩, h.f.pu hp, h.u.pu hp, h.k.pu hp, h.ne, h.len, h.fb⟩
theorem BookAt.cg (h : BookAt w bb x l) {H : Nat → Prop} (hc : Cg H w w') (h1 : ¬ H bb) (h2 : l ≠ [] → ¬ H x.gL) (h3 : ∀ g, x.G g → ¬ H g) : BookAt w' bb x l :=
  ⟨hc.row h.b h1, fun hl => ⟨(h.usr hl).1, hc.row (h.usr hl).2 (h2 hl)⟩, hc.row h.f (h3 _ (.inl rfl)), hc.row h.u (h3 _ (.inr (.inl rfl))), hc.row h.k (h3 _ (.inr (.inr rfl))), h.ne, h.len, h.fb⟩
theorem BookAt.cells (h : BookAt w bb x l) : w.cell? ⟨bb, 0, none⟩ = some (.slice x.aL l.length x.cL) ∧ w.cell? ⟨bb, 1, none⟩ = some (.slice (some ⟨x.gF, 0, none⟩) l.length l.length) ∧ w.cell? ⟨bb, 2, none⟩ = some (.slice (some ⟨x.gU, 0, none⟩) l.length l.length) ∧ w.cell? ⟨bb, 3, none⟩ = some (.slice (some ⟨x.gK, 0, none⟩) l.length l.length) := by
  refine ⟨?_, ?_, ?_, ?_⟩
  · have := h.b.cell 0 (by simp); simpa using this
  · have := h.b.cell 1 (by simp); simpa using this
  · have := h.b.cell 2 (by simp); simpa using this
  · have := h.b.cell 3 (by simp); simpa using this
def atV (l : List UserS) (n : Bs) : Int := match posN l n with
  | some i => (i : Int)
  | none => -1
set_option maxRecDepth 100000 in
set_option maxHeartbeats 1600000 in
theorem atB (h : BookAt w bb x l) (n : Bs) :
    Calls Tryz.prog 39 #[.pointer (some ⟨bb, 0, none⟩), S n] w fun e w' => e = .returned (.int .i64 (atV l n)) ∧ w' = w := by
  obtain ⟨aL, cL, gL, gF, gU, gK⟩ := x
  obtain ⟨c0, c1, c2, c3⟩ := h.cells
  have hlen := h.len
  have HL := Lib.hid h.usr
  simp only at c0
  clear h c1 c2 c3
  go_enter Tryz.func39, Tryz.ntmps39
  go_wp2_with fail
  go_loopw [5] (fun v wr => ∃ i : Nat, i ≤ l.length ∧ v = .int .i64 (i : Int) ∧ (∀ j (hj : j < l.length), j < i → (l[j]).name ≠ n) ∧ wr = w) (fun v _ => l.length - (intOf v).toNat)
  case atStart => exact ⟨0, by omega, rfl, fun j _ h => absurd h (Nat.not_lt_zero _), rfl⟩
  case round =>
    obtain ⟨i, hi, rfl, hq, rfl⟩ := hrel
    by_cases hlt : i < l.length
    · obtain ⟨haL, hr⟩ := HL.out (by intro e; rw [e] at hlt; simp at hlt)
      subst haL
      have hz : i < (nsL l).length := by rw [nsL_length]; omega
      have hc := hr.cell' (i * 2) (by rw [flatU_length]; omega)
      rw [flatU_get _ i hz] at hc
      obtain ⟨nm, hnm⟩ : ∃ z, z = (l[i]).name := ⟨_, rfl⟩
      rw [show ((nsL l)[i]'hz).1 = nm by rw [hnm]; simp [nsL]] at hc
      have k0 : (0 : Int) ≤ i := by omega
      have k1 : (i : Int) < l.length := by omega
      have hq' := Lib.hid hq
      by_cases hn : nm = n
      · subst hn
        have hp := Lib.hid (posN_first hlt hnm.symm hq)
        clear hq hnm hr
        go_wp2_with fail
        go_ret
        exact ⟨by unfold atV; rw [hp.out]; rfl, rfl⟩
      · have hb1 : (nm == n) = false := by simpa using hn
        have hb2 : ¬ bs nm = bs n := fun e => hn (bs_inj e)
        have hst := Lib.hid (show ∀ j (hj : j < l.length), j < i + 1 → (l[j]).name ≠ n from fun j hj hji => by
          by_cases hji2 : j < i
          · exact hq j hj hji2
          · obtain rfl : j = i := by omega
            rw [← hnm]; exact hn)
        clear hq hnm hr hn
        go_wp2_with fail
        go_roundw
        case rel => exact ⟨i + 1, by omega, by go_num, hst.out, by first | rfl | trivial⟩
        case measure => simp [intOf]; omega
    · obtain rfl : i = l.length := by omega
      have hp := Lib.hid (show posN l n = none from posN_none fun u hu => by
        obtain ⟨j, hj, rfl⟩ := List.mem_iff_getElem.1 hu
        exact hq j hj hj)
      have hlt' : decide ((l.length : Int) < l.length) = false := by simp
      clear hq
      go_wp2_with fail
      go_ret
      exact ⟨by unfold atV; rw [hp.out]; rfl, rfl⟩
set_option maxRecDepth 100000 in
set_option maxHeartbeats 1600000 in
theorem isLockedB (h : BookAt w bb x l) (n : Bs) (now : Int) :
    Calls Tryz.prog 63 #[.pointer (some ⟨bb, 0, none⟩), S n, .int .i64 now] w fun e w' => e = .returned (.bool (lockV l n now)) ∧ w' = w := by
  have HA := Lib.hid (atB h n)
  obtain ⟨aL, cL, gL, gF, gU, gK⟩ := x
  obtain ⟨c0, c1, c2, c3⟩ := h.cells
  simp only at c0 c1 c2 c3
  have hlen := h.len
  cases hp : posN l n with
  | none =>
    have e9 : lockV l n now = false := by unfold lockV; rw [hp]; rfl
    have ha : atV l n = -1 := by unfold atV; rw [hp]
    have HA2 := Lib.hid (ha ▸ HA.out)
    rw [e9]
    clear h hp ha e9 HA
    go_enter Tryz.func63, Tryz.ntmps63
    go_wp2_with (go_at_call 39; refine HA2.out.mono ?_; rintro e w1 ⟨rfl, rfl⟩)
    go_ret
    exact ⟨rfl, rfl⟩
  | some i =>
    obtain ⟨hi, hnm⟩ := posN_some hp
    have ha : atV l n = (i : Int) := by unfold atV; rw [hp]
    have HA2 := Lib.hid (ha ▸ HA.out)
    have hk := h.k.cell' i (by rw [lockC_length]; exact hi)
    have hu := h.u.cell' i (by rw [tilC_length]; exact hi)
    rw [lockC_get hi] at hk
    rw [tilC_get hi] at hu
    simp only at hk hu
    have e9 : lockV l n now = ((l[i]).locked && decide (now ≤ (l[i]).til)) := by
      unfold lockV; rw [hp]; simp [List.getElem?_eq_getElem hi, lockedS]
    rw [e9]
    obtain ⟨lk, hlk⟩ : ∃ z, z = (l[i]).locked := ⟨_, rfl⟩
    obtain ⟨tl, htl⟩ : ∃ z, z = (l[i]).til := ⟨_, rfl⟩
    rw [← hlk] at hk ⊢
    rw [← htl] at hu ⊢
    have k0 : (0 : Int) ≤ i := by omega
    have k1 : (i : Int) < l.length := by omega
    clear h hp ha e9 HA hlk htl hnm
    cases lk with
    | false =>
      go_enter Tryz.func63, Tryz.ntmps63
      go_wp2_with (go_at_call 39; refine HA2.out.mono ?_; rintro e w1 ⟨rfl, rfl⟩)
      go_ret
      exact ⟨rfl, rfl⟩
    | true =>
      by_cases hn : now ≤ tl
      · have hd : decide (now ≤ tl) = true := by simpa using hn
        rw [hd]
        go_enter Tryz.func63, Tryz.ntmps63
        go_wp2_with (go_at_call 39; refine HA2.out.mono ?_; rintro e w1 ⟨rfl, rfl⟩)
        go_ret
        exact ⟨rfl, rfl⟩
      · have hd : decide (now ≤ tl) = false := by simpa using hn
        rw [hd]
        go_enter Tryz.func63, Tryz.ntmps63
        go_wp2_with (go_at_call 39; refine HA2.out.mono ?_; rintro e w1 ⟨rfl, rfl⟩)
        go_ret
        exact ⟨rfl, rfl⟩
theorem BookAt.set (h : BookAt w bb x l) {i : Nat} (hi : i < l.length) {v : UserS} (h1 : v.name = (l[i]).name) (h2 : v.secret = (l[i]).secret) (h3 : v.fails < 3) {w' : World}
    (hf : Row w' x.gF 3 ((failC l).set i (.int .i64 (v.fails : Int)))) (hu : Row w' x.gU 3 ((tilC l).set i (.int .i64 v.til))) (hk : Row w' x.gK 4 ((lockC l).set i (.bool v.locked))) (hc : Cg x.G w w') : BookAt w' bb x (l.set i v) := by
  have hl0 : l ≠ [] := by intro e; rw [e] at hi; simp at hi
  refine ⟨?_, fun hl => ⟨(h.usr hl0).1, ?_⟩, ?_, ?_, ?_, h.ne, by rw [List.length_set]; exact h.len, fun u hu => ?_⟩
  · rw [List.length_set]
    refine hc.row h.b ?_
    rintro (e | e | e)
    · exact rowNe h.b h.f (by decide) e
    · exact rowNe h.b h.u (by decide) e
    · exact rowNe h.b h.k (by decide) e
  · rw [nsL_set hi h1 h2]
    refine hc.row (h.usr hl0).2 ?_
    rintro (e | e | e)
    · exact rowNe (h.usr hl0).2 h.f (by decide) e
    · exact rowNe (h.usr hl0).2 h.u (by decide) e
    · exact rowNe (h.usr hl0).2 h.k (by decide) e
  · unfold failC; rw [List.map_set]; exact hf
  · unfold tilC; rw [List.map_set]; exact hu
  · unfold lockC; rw [List.map_set]; exact hk
  · rcases List.mem_or_eq_of_mem_set hu with h4 | h4
    · exact h.fb u h4
    · rw [h4]; exact h3
theorem BookAt.neFK (h : BookAt w bb x l) : x.gF ≠ x.gK := rowNe h.f h.k (by decide)
theorem BookAt.neUK (h : BookAt w bb x l) : x.gU ≠ x.gK := rowNe h.u h.k (by decide)
theorem set_same {α : Type} {xs : List α} {i : Nat} {v : α} (h : xs[i]? = some v) : xs.set i v = xs := by
  refine List.ext_getElem? fun j => ?_
  rw [List.getElem?_set]
  split
  · next hj =>
    subst hj
    have := (List.getElem?_eq_some_iff.1 h).1
    rw [if_pos this, h]
  · rfl
set_option maxRecDepth 100000 in
set_option maxHeartbeats 1600000 in
theorem goodB (h : BookAt w bb x l) (n : Bs) :
    Calls Tryz.prog 65 #[.pointer (some ⟨bb, 0, none⟩), S n] w fun e w' => e = .returned (.tuple #[]) ∧ BookAt w' bb x (modN l n goodS) ∧ Cg x.G w w' := by
  have HA := Lib.hid (atB h n)
  obtain ⟨c0, c1, c2, c3⟩ := h.cells
  have hlen := h.len
  have H := Lib.hid h
  cases hp : posN l n with
  | none =>
    rw [modN_none hp]
    have ha : atV l n = -1 := by unfold atV; rw [hp]
    have HA2 := Lib.hid (ha ▸ HA.out)
    clear h hp ha HA
    go_enter Tryz.func65, Tryz.ntmps65
    go_wp2_with (go_at_call 39; refine HA2.out.mono ?_; rintro e w1 ⟨rfl, rfl⟩)
    go_end0
    exact ⟨rfl, H.out, Cg.refl _ _⟩
  | some i =>
    obtain ⟨hi, hnm⟩ := posN_some hp
    rw [modN_at hp hi]
    have ha : atV l n = (i : Int) := by unfold atV; rw [hp]
    have HA2 := Lib.hid (ha ▸ HA.out)
    have hf := h.f.cell' i (by rw [failC_length]; exact hi)
    rw [failC_get hi] at hf
    have hz := h.f.frozen i (by rw [failC_length]; exact hi)
    have k0 : (0 : Int) ≤ i := by omega
    have k1 : (i : Int) < l.length := by omega
    obtain ⟨fi, hfi⟩ : ∃ z, z = (l[i]).fails := ⟨_, rfl⟩
    rw [← hfi] at hf
    have hc : Cg x.G w (w.setCell ⟨x.gF, i, none⟩ (.int .i64 0)) := Cg.ofBut (But.set _ _ _) (.inl rfl)
    have hfin : BookAt (w.setCell ⟨x.gF, i, none⟩ (.int .i64 0)) bb x (l.set i (goodS (l[i]))) := by
      refine h.set hi (v := goodS (l[i])) rfl rfl (by show 0 < 3; omega) (h.f.set i _) ?_ ?_ hc
      · rw [show (goodS (l[i])).til = (l[i]).til from rfl, set_same (tilC_get hi)]
        exact h.u.setOther (⟨x.gF, i, none⟩ : Addr) _ h.ne.symm
      · rw [show (goodS (l[i])).locked = (l[i]).locked from rfl, set_same (lockC_get hi)]
        exact h.k.setOther (⟨x.gF, i, none⟩ : Addr) _ h.neFK.symm
    have HC := Lib.hid hc
    have HFIN := Lib.hid hfin
    clear h hp ha HA hnm hfi hc hfin H
    go_enter Tryz.func65, Tryz.ntmps65
    go_wp2_with (go_at_call 39; refine HA2.out.mono ?_; rintro e w1 ⟨rfl, rfl⟩)
    go_end0
    exact ⟨rfl, HFIN.out, HC.out⟩
end
end Go.Proofs.YtlbdbmnkjljohaaGreat
