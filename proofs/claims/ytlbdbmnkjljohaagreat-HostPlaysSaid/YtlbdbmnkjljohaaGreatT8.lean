/- Package users: who there is, who is locked out. Package users: failures. A store within a drawn region. The operations of a region, by its number; the document's turns to the right. Region 16 of the document's Sum. Region 19 of the document's Sum. Region 24 of the document's Sum. -/
import Derived.Test.YtlbdbmnkjljohaaGreatT7
set_option linter.unusedSimpArgs false
set_option linter.unusedVariables false
set_option linter.unusedSimpArgs false
set_option linter.unusedVariables false
namespace Go.Proofs.YtlbdbmnkjljohaaGreat
open Go.RowKit Go.Esc
/-- A user. -/
structure UserS where
  name : Bs
  secret : Bs
  fails : Nat
  locked : Bool
  til : Int
def userC (u : UserS) : List Value := [S u.secret, .int .i64 (u.fails : Int), .bool u.locked, .int .i64 u.til]
def posN (l : List UserS) (n : Bs) : Option Nat := l.findIdx? (fun u => u.name == n)
theorem posN_some {l : List UserS} {n : Bs} {i : Nat} (h : posN l n = some i) : ∃ hi : i < l.length, (l[i]).name = n := by
  unfold posN at h
  rw [List.findIdx?_eq_some_iff_getElem] at h
  obtain ⟨hi, h1, -⟩ := h
  exact ⟨hi, by simpa using h1⟩
/-- The failures after one more. -/
def failS (now : Int) (u : UserS) : UserS := if u.fails + 1 < 3 then { u with fails := u.fails + 1 } else { u with fails := 0, locked := true, til := if now ≤ 9223372036854775787 then now + 20 else 9223372036854775807 }
def goodS (u : UserS) : UserS := { u with fails := 0 }
def lockedS (now : Int) (u : UserS) : Bool := u.locked && decide (now ≤ u.til)
def modU (l : List UserS) (i : Nat) (f : UserS → UserS) : List UserS := match l[i]? with
  | some u => l.set i (f u)
  | none => l
theorem modU_length (l : List UserS) (i : Nat) (f : UserS → UserS) : (modU l i f).length = l.length := by
  unfold modU; split <;> simp
theorem modU_name {l : List UserS} {i : Nat} {f : UserS → UserS} (hf : ∀ u, (f u).name = u.name) (n : Bs) : posN (modU l i f) n = posN l n := by
  unfold modU
  split
  · next u hu =>
    have hm : (l.set i (f u)).map UserS.name = l.map UserS.name := by
      rw [List.map_set, hf]
      apply List.ext_getElem?
      intro k
      rw [List.getElem?_set]
      split
      · next h =>
        subst h
        have hlt := (List.getElem?_eq_some_iff.1 hu).1
        rw [if_pos (by simpa using hlt)]
        simp [hu]
      · rfl
    have h1 : ∀ l : List UserS, posN l n = (l.map UserS.name).findIdx? (· == n) := fun l => by
      unfold posN
      rw [List.findIdx?_map]
      rfl
    rw [h1, h1, hm]
  · rfl
/-- The parts of users. -/
structure UsersP (G : Nat → Prop) (w : World) (ub mb : Nat) (bl : List Nat) (l : List UserS) : Prop where
  row : Row w ub 108 [.map (some mb)]
  m : MapAt Tryz.prog 9 litS w mb l.length (fun k => (posN l k).bind fun i => (bl[i]?).map fun g => .pointer (some ⟨g, 0, none⟩))
  len : bl.length = l.length
  us : ∀ (i g : Nat) (u : UserS), bl[i]? = some g → l[i]? = some u → Row w g 111 (userC u)
  gu : G ub
  gm : G mb
  gb : ∀ (i g : Nat), bl[i]? = some g → G g ∧ g ≠ ub ∧ g ≠ mb
  nd : ∀ (i j g : Nat), bl[i]? = some g → bl[j]? = some g → i = j
  dom : ∀ g, G g → g < w.heap.size
  fl : ∀ (i : Nat) (u : UserS), l[i]? = some u → u.fails < 3
def UsersAt (G : Nat → Prop) (w : World) (ub : Nat) (l : List UserS) : Prop := ∃ mb bl, UsersP G w ub mb bl l
theorem UsersP.cg {G H : Nat → Prop} {w w' : World} {ub mb : Nat} {bl : List Nat} {l : List UserS} (h : UsersP G w ub mb bl l) (hp : Cg H w w') (hd : ∀ g, H g → ¬ G g) : UsersP G w' ub mb bl l :=
  ⟨hp.row h.row (fun e => hd _ e h.gu), h.m.other (hp.block mb h.m.lt (fun e => hd _ e h.gm)), h.len, fun i g u h1 h2 => hp.row (h.us i g u h1 h2) (fun e => hd _ e (h.gb i g h1).1), h.gu, h.gm, h.gb, h.nd, fun g hg => Nat.lt_of_lt_of_le (h.dom g hg) hp.size, h.fl⟩
theorem UsersAt.cg {G H : Nat → Prop} {w w' : World} {ub : Nat} {l : List UserS} (h : UsersAt G w ub l) (hp : Cg H w w') (hd : ∀ g, H g → ¬ G g) : UsersAt G w' ub l := by
  obtain ⟨mb, bl, h⟩ := h; exact ⟨mb, bl, h.cg hp hd⟩
theorem UsersAt.pu {G : Nat → Prop} {w w' : World} {ub : Nat} {l : List UserS} (h : UsersAt G w ub l) (hp : Pu w w') : UsersAt G w' ub l := h.cg (H := fun _ => False) (Cg.ofPu hp) (fun _ h => h.elim)
theorem UsersP.pu {G : Nat → Prop} {w w' : World} {ub mb : Nat} {bl : List Nat} {l : List UserS} (h : UsersP G w ub mb bl l) (hp : Pu w w') : UsersP G w' ub mb bl l := h.cg (H := fun _ => False) (Cg.ofPu hp) (fun _ h => h.elim)
theorem UsersAt.dom {G : Nat → Prop} {w : World} {ub : Nat} {l : List UserS} (h : UsersAt G w ub l) : ∀ g, G g → g < w.heap.size := by
  obtain ⟨mb, bl, h⟩ := h; exact h.dom
def ptrO (bl : List Nat) (o : Option Nat) : Value := match o.bind fun i => bl[i]? with
  | some g => .pointer (some ⟨g, 0, none⟩)
  | none => .pointer none
theorem zeroPtrU (w : World) : (zeroValue 109).run Tryz.prog w = .ok (.pointer none) w := by kernel_rfl
set_option maxRecDepth 100000 in
theorem ofW {G : Nat → Prop} {w : World} {ub mb : Nat} {bl : List Nat} {l : List UserS} (h : UsersP G w ub mb bl l) (n : Bs) (hn : n.length ≤ 1000000) :
    Calls Tryz.prog 61 #[.pointer (some ⟨ub, 0, none⟩), S n] w fun e w' => e = .returned (ptrO bl (posN l n)) ∧ w' = w := by
  have c0 := h.row.cell 0 (by simp)
  simp at c0
  have hm := h.m
  have e9 : ((posN l n).bind fun i => (bl[i]?).map fun g => Value.pointer (some ⟨g, 0, none⟩)).getD (.pointer none) = ptrO bl (posN l n) := by
    unfold ptrO
    cases posN l n with
    | none => rfl
    | some i => simp only [Option.bind_some]; cases bl[i]? <;> rfl
  have HM := Lib.hid hm
  have E9 := Lib.hid e9
  clear h hm e9
  go_enter Tryz.func61, Tryz.ntmps61
  go_wp2_with (refine wpList_map_get _ rfl (.tmp 10) (.tmp 11) 106 rfl 109 (keyS Tryz.underlying9) Tryz.underlying106 (zeroPtrU _) mb l.length _ (by rfl) HM.out n hn (by rfl) ?_; rw [E9.out])
  go_ret
  exact ⟨rfl, rfl⟩
set_option maxRecDepth 100000 in
set_option maxHeartbeats 1600000 in
theorem store64 (a : Addr) (x : Value) (y : Int) (w : World) (hc : w.cell? a = some x) (hz : w.frozen? a = false) :
    Calls Tryz.prog 47 #[.pointer (some a), .int .i64 y] w fun e w' => e = .returned (.tuple #[]) ∧ w' = w.setCell a (.int .i64 y) := by
  have hst := run_call_store (P := Tryz.prog) Tryz.func67 (by kernel_rfl) (by kernel_rfl) (by kernel_rfl) (by kernel_rfl) (k := .i64) (y := y) hc hz
  go_enter Tryz.func47, Tryz.ntmps47
  go_wp2_with fail
  go_end0
  exact ⟨rfl, rfl⟩
def secV (l : List UserS) (n : Bs) : Option Bs := (posN l n).bind fun i => (l[i]?).map UserS.secret
set_option maxRecDepth 100000 in
theorem secretW {G : Nat → Prop} {w : World} {ub : Nat} {l : List UserS} (h : UsersAt G w ub l) (n : Bs) (hn : n.length ≤ 1000000) :
    Calls Tryz.prog 83 #[.pointer (some ⟨ub, 0, none⟩), S n] w fun e w' => e = .returned (.tuple #[S (optV (secV l n)), .bool (secV l n).isSome]) ∧ w' = w := by
  obtain ⟨mb, bl, h⟩ := h
  have hO := ofW h n hn
  cases hp : posN l n with
  | none =>
    rw [show secV l n = none by unfold secV; rw [hp]; rfl]
    rw [show ptrO bl (posN l n) = .pointer none by rw [hp]; rfl] at hO
    have HO := Lib.hid hO
    clear hO hp h
    go_enter Tryz.func83, Tryz.ntmps83
    go_wp2_with (go_at_call 61; refine HO.out.mono ?_; rintro e w1 ⟨rfl, rfl⟩)
    go_ret2
    exact ⟨rfl, rfl⟩
  | some i =>
    obtain ⟨hi, hne⟩ := posN_some hp
    have hg : bl[i]? = some (bl[i]'(by rw [h.len]; exact hi)) := List.getElem?_eq_getElem _
    obtain ⟨g, hge⟩ : ∃ g, g = bl[i]'(by rw [h.len]; exact hi) := ⟨_, rfl⟩
    rw [← hge] at hg
    have hu : l[i]? = some l[i] := List.getElem?_eq_getElem hi
    obtain ⟨u, hue⟩ : ∃ u, u = l[i] := ⟨_, rfl⟩
    rw [← hue] at hu
    have c0 := (h.us i g u hg hu).cell 0 (by simp [userC])
    simp [userC] at c0
    rw [show secV l n = some u.secret by unfold secV; rw [hp]; simp [hu]]
    rw [show ptrO bl (posN l n) = .pointer (some ⟨g, 0, none⟩) by rw [hp]; unfold ptrO; simp [hg]] at hO
    have HO := Lib.hid hO
    clear hO hp h hg hge hu hue hne
    go_enter Tryz.func83, Tryz.ntmps83
    go_wp2_with (go_at_call 61; refine HO.out.mono ?_; rintro e w1 ⟨rfl, rfl⟩)
    go_ret2
    exact ⟨rfl, rfl⟩
def lockV (l : List UserS) (n : Bs) (now : Int) : Bool := match (posN l n).bind fun i => l[i]? with
  | some u => lockedS now u
  | none => false
def failsV (l : List UserS) (n : Bs) : Nat := match (posN l n).bind fun i => l[i]? with
  | some u => u.fails
  | none => 0
set_option maxRecDepth 100000 in
theorem lockedW {G : Nat → Prop} {w : World} {ub : Nat} {l : List UserS} (h : UsersAt G w ub l) (n : Bs) (hn : n.length ≤ 1000000) (now : Int) :
    Calls Tryz.prog 42 #[.pointer (some ⟨ub, 0, none⟩), S n, .int .i64 now] w fun e w' => e = .returned (.bool (lockV l n now)) ∧ w' = w := by
  obtain ⟨mb, bl, h⟩ := h
  have hO := ofW h n hn
  cases hp : posN l n with
  | none =>
    rw [show lockV l n now = false by unfold lockV; rw [hp]; rfl]
    rw [show ptrO bl (posN l n) = .pointer none by rw [hp]; rfl] at hO
    have HO := Lib.hid hO
    clear hO hp h
    go_enter Tryz.func42, Tryz.ntmps42
    go_wp2_with (go_at_call 61; refine HO.out.mono ?_; rintro e w1 ⟨rfl, rfl⟩)
    go_ret
    exact ⟨rfl, rfl⟩
  | some i =>
    obtain ⟨hi, hne⟩ := posN_some hp
    have hg : bl[i]? = some (bl[i]'(by rw [h.len]; exact hi)) := List.getElem?_eq_getElem _
    obtain ⟨g, hge⟩ : ∃ g, g = bl[i]'(by rw [h.len]; exact hi) := ⟨_, rfl⟩
    rw [← hge] at hg
    have hu : l[i]? = some l[i] := List.getElem?_eq_getElem hi
    obtain ⟨u, hue⟩ : ∃ u, u = l[i] := ⟨_, rfl⟩
    rw [← hue] at hu
    have c2 := (h.us i g u hg hu).cell 2 (by simp [userC])
    have c3 := (h.us i g u hg hu).cell 3 (by simp [userC])
    simp [userC] at c2 c3
    have e9 : lockV l n now = (u.locked && decide (now ≤ u.til)) := by unfold lockV; rw [hp]; simp [hu, lockedS]
    rw [e9]
    rw [show ptrO bl (posN l n) = .pointer (some ⟨g, 0, none⟩) by rw [hp]; unfold ptrO; simp [hg]] at hO
    have HO := Lib.hid hO
    obtain ⟨b, hb⟩ : ∃ b, b = u.locked := ⟨_, rfl⟩
    obtain ⟨x, hx⟩ : ∃ b, b = u.til := ⟨_, rfl⟩
    rw [← hb] at c2 ⊢
    rw [← hx] at c3 ⊢
    clear hO hp h hg hge hu hue hne e9 hb hx
    cases b with
    | true =>
      go_enter Tryz.func42, Tryz.ntmps42
      go_wp2_with (go_at_call 61; refine HO.out.mono ?_; rintro e w1 ⟨rfl, rfl⟩)
      go_ret
      exact ⟨by simp, rfl⟩
    | false =>
      go_enter Tryz.func42, Tryz.ntmps42
      go_wp2_with (go_at_call 61; refine HO.out.mono ?_; rintro e w1 ⟨rfl, rfl⟩)
      go_ret
      exact ⟨rfl, rfl⟩
set_option maxRecDepth 100000 in
theorem failsW {G : Nat → Prop} {w : World} {ub : Nat} {l : List UserS} (h : UsersAt G w ub l) (n : Bs) (hn : n.length ≤ 1000000) :
    Calls Tryz.prog 41 #[.pointer (some ⟨ub, 0, none⟩), S n] w fun e w' => e = .returned (.int .i64 (failsV l n : Int)) ∧ w' = w := by
  obtain ⟨mb, bl, h⟩ := h
  have hO := ofW h n hn
  cases hp : posN l n with
  | none =>
    rw [show failsV l n = 0 by unfold failsV; rw [hp]; rfl]
    rw [show ptrO bl (posN l n) = .pointer none by rw [hp]; rfl] at hO
    have HO := Lib.hid hO
    clear hO hp h
    go_enter Tryz.func41, Tryz.ntmps41
    go_wp2_with (go_at_call 61; refine HO.out.mono ?_; rintro e w1 ⟨rfl, rfl⟩)
    go_ret
    exact ⟨rfl, rfl⟩
  | some i =>
    obtain ⟨hi, hne⟩ := posN_some hp
    have hg : bl[i]? = some (bl[i]'(by rw [h.len]; exact hi)) := List.getElem?_eq_getElem _
    obtain ⟨g, hge⟩ : ∃ g, g = bl[i]'(by rw [h.len]; exact hi) := ⟨_, rfl⟩
    rw [← hge] at hg
    have hu : l[i]? = some l[i] := List.getElem?_eq_getElem hi
    obtain ⟨u, hue⟩ : ∃ u, u = l[i] := ⟨_, rfl⟩
    rw [← hue] at hu
    have c1 := (h.us i g u hg hu).cell 1 (by simp [userC])
    simp [userC] at c1
    have e9 : failsV l n = u.fails := by unfold failsV; rw [hp]; simp [hu]
    rw [e9]
    rw [show ptrO bl (posN l n) = .pointer (some ⟨g, 0, none⟩) by rw [hp]; unfold ptrO; simp [hg]] at hO
    have HO := Lib.hid hO
    have hfl := h.fl i u hu
    have kw : IntKind.i64.wrap (u.fails : Int) = u.fails := by rw [IntKind.wrap_i64]; omega
    clear hO hp h hg hge hu hue hne e9
    go_enter Tryz.func41, Tryz.ntmps41
    go_wp2_with (first
      | (go_at_call 61; refine HO.out.mono ?_; rintro e w1 ⟨rfl, rfl⟩)
      | (go_at_call 51; refine (load64 _ _ _ c1).mono ?_; rintro e w1 ⟨rfl, rfl⟩))
    go_ret
    exact ⟨rfl, rfl⟩
end Go.Proofs.YtlbdbmnkjljohaaGreat
set_option linter.unusedSimpArgs false
set_option linter.unusedVariables false
namespace Go.Proofs.YtlbdbmnkjljohaaGreat
open Go.RowKit Go.Esc
def modN (l : List UserS) (n : Bs) (f : UserS → UserS) : List UserS := match posN l n with
  | some i => modU l i f
  | none => l
theorem UsersP.modify {G : Nat → Prop} {w w' : World} {ub mb : Nat} {bl : List Nat} {l : List UserS} (h : UsersP G w ub mb bl l) {i g : Nat} {u v : UserS} (hg : bl[i]? = some g) (hu : l[i]? = some u) (hr : Row w' g 111 (userC v)) (hb : But g w w') (hn : v.name = u.name) (hf : v.fails < 3) : UsersP G w' ub mb bl (l.set i v) := by
  have hlt := (List.getElem?_eq_some_iff.1 hu).1
  have hmo : l.set i v = modU l i (fun x => { v with name := x.name }) := by
    unfold modU; rw [hu]; simp only; congr 1; rw [← hn]
  refine ⟨hb.row h.row (fun e => (h.gb i g hg).2.1 e.symm), ?_, by rw [List.length_set]; exact h.len, fun j g' x h1 h2 => ?_, h.gu, h.gm, h.gb, h.nd, fun g' hg' => Nat.lt_of_lt_of_le (h.dom g' hg') hb.size, fun j x h2 => ?_⟩
  · rw [List.length_set]
    have := h.m.other (hb.block mb h.m.lt (fun e => (h.gb i g hg).2.2 e.symm))
    rw [hmo]
    have e : (fun k => (posN (modU l i (fun x => { v with name := x.name })) k).bind fun i => (bl[i]?).map fun g => Value.pointer (some ⟨g, 0, none⟩)) = (fun k => (posN l k).bind fun i => (bl[i]?).map fun g => Value.pointer (some ⟨g, 0, none⟩)) := by
      funext k; rw [modU_name (f := fun x => { v with name := x.name }) (fun _ => rfl)]
    rw [e]; exact this
  · rw [List.getElem?_set] at h2
    by_cases hij : i = j
    · subst hij
      rw [if_pos rfl, if_pos hlt] at h2
      cases h2
      rw [hg] at h1; cases h1
      exact hr
    · rw [if_neg hij] at h2
      refine hb.row (h.us j g' x h1 h2) (fun e => hij ?_)
      subst e
      exact h.nd i j g' hg h1
  · rw [List.getElem?_set] at h2
    by_cases hij : i = j
    · subst hij
      rw [if_pos rfl, if_pos hlt] at h2
      cases h2
      exact hf
    · rw [if_neg hij] at h2
      exact h.fl j x h2
set_option maxRecDepth 100000 in
theorem goodW {G : Nat → Prop} {w : World} {ub : Nat} {l : List UserS} (h : UsersAt G w ub l) (n : Bs) (hn : n.length ≤ 1000000) :
    Calls Tryz.prog 84 #[.pointer (some ⟨ub, 0, none⟩), S n] w fun e w' => e = .returned (.tuple #[]) ∧ UsersAt G w' ub (modN l n goodS) ∧ Cg G w w' := by
  obtain ⟨mb, bl, h⟩ := h
  have hO := ofW h n hn
  cases hp : posN l n with
  | none =>
    rw [show modN l n goodS = l by unfold modN; rw [hp]]
    rw [show ptrO bl (posN l n) = .pointer none by rw [hp]; rfl] at hO
    have HO := Lib.hid hO
    have H := Lib.hid h
    clear hO hp h
    go_enter Tryz.func84, Tryz.ntmps84
    go_wp2_with (go_at_call 61; refine HO.out.mono ?_; rintro e w1 ⟨rfl, rfl⟩)
    go_end0
    exact ⟨rfl, ⟨mb, bl, H.out⟩, Cg.refl _ _⟩
  | some i =>
    obtain ⟨hi, hne⟩ := posN_some hp
    have hg : bl[i]? = some (bl[i]'(by rw [h.len]; exact hi)) := List.getElem?_eq_getElem _
    obtain ⟨g, hge⟩ : ∃ g, g = bl[i]'(by rw [h.len]; exact hi) := ⟨_, rfl⟩
    rw [← hge] at hg
    have hu : l[i]? = some l[i] := List.getElem?_eq_getElem hi
    obtain ⟨u, hue⟩ : ∃ u, u = l[i] := ⟨_, rfl⟩
    rw [← hue] at hu
    have hr := h.us i g u hg hu
    have c1 := hr.cell 1 (by simp [userC])
    have z1 := hr.frozen 1 (by simp [userC])
    simp [userC] at c1
    have hr2 := hr.set 1 (.int .i64 0)
    have e9 : modN l n goodS = l.set i (goodS u) := by unfold modN modU; rw [hp]; simp [hu]
    rw [show ptrO bl (posN l n) = .pointer (some ⟨g, 0, none⟩) by rw [hp]; unfold ptrO; simp [hg]] at hO
    have hfin : UsersP G (w.setCell ⟨g, 1, none⟩ (.int .i64 0)) ub mb bl (modN l n goodS) := by
      rw [e9]
      exact h.modify hg hu (by simpa [userC, goodS] using hr2) (But.set _ _ _) rfl (by show 0 < 3; decide)
    have hcg : Cg G w (w.setCell ⟨g, 1, none⟩ (.int .i64 0)) := Cg.ofBut (But.set _ _ _) (h.gb i g hg).1
    have HO := Lib.hid hO
    have HF := Lib.hid hfin
    have HC := Lib.hid hcg
    clear hO hp h hg hge hu hue hne e9 hfin hcg hr hr2
    go_enter Tryz.func84, Tryz.ntmps84
    go_wp2_with (first
      | (go_at_call 61; refine HO.out.mono ?_; rintro e w1 ⟨rfl, rfl⟩)
      | (go_at_call 47; refine (store64 _ _ _ _ c1 z1).mono ?_; rintro e w2 ⟨rfl, rfl⟩))
    go_end0
    exact ⟨rfl, ⟨mb, bl, HF.out⟩, HC.out⟩
def failR (l : List UserS) (n : Bs) : Bool := match (posN l n).bind fun i => l[i]? with
  | some u => decide (¬ u.fails + 1 < 3)
  | none => false
set_option maxRecDepth 100000 in
set_option maxHeartbeats 1600000 in
theorem failW {G : Nat → Prop} {w : World} {ub : Nat} {l : List UserS} (h : UsersAt G w ub l) (n : Bs) (hn : n.length ≤ 1000000) (now : Int) (h1 : -9223372036854775808 ≤ now) (h2 : now ≤ 9223372036854775807) :
    Calls Tryz.prog 34 #[.pointer (some ⟨ub, 0, none⟩), S n, .int .i64 now] w fun e w' => e = .returned (.bool (failR l n)) ∧ UsersAt G w' ub (modN l n (failS now)) ∧ Cg G w w' := by
  obtain ⟨mb, bl, h⟩ := h
  have hO := ofW h n hn
  cases hp : posN l n with
  | none =>
    rw [show modN l n (failS now) = l by unfold modN; rw [hp]]
    rw [show failR l n = false by unfold failR; rw [hp]; rfl]
    rw [show ptrO bl (posN l n) = .pointer none by rw [hp]; rfl] at hO
    have HO := Lib.hid hO
    have H := Lib.hid h
    clear hO hp h
    go_enter Tryz.func34, Tryz.ntmps34
    go_wp2_with (go_at_call 61; refine HO.out.mono ?_; rintro e w1 ⟨rfl, rfl⟩)
    go_ret
    exact ⟨rfl, ⟨mb, bl, H.out⟩, Cg.refl _ _⟩
  | some i =>
    obtain ⟨hi, hne⟩ := posN_some hp
    have hg : bl[i]? = some (bl[i]'(by rw [h.len]; exact hi)) := List.getElem?_eq_getElem _
    obtain ⟨g, hge⟩ : ∃ g, g = bl[i]'(by rw [h.len]; exact hi) := ⟨_, rfl⟩
    rw [← hge] at hg
    have hu : l[i]? = some l[i] := List.getElem?_eq_getElem hi
    obtain ⟨u, hue⟩ : ∃ u, u = l[i] := ⟨_, rfl⟩
    rw [← hue] at hu
    have hfl := h.fl i u hu
    have hr := h.us i g u hg hu
    have c1 := hr.cell 1 (by simp [userC])
    have z1 := hr.frozen 1 (by simp [userC])
    simp [userC] at c1
    have e9 : modN l n (failS now) = l.set i (failS now u) := by unfold modN modU; rw [hp]; simp [hu]
    have e8 : failR l n = decide (¬ u.fails + 1 < 3) := by unfold failR; rw [hp]; simp [hu]
    rw [show ptrO bl (posN l n) = .pointer (some ⟨g, 0, none⟩) by rw [hp]; unfold ptrO; simp [hg]] at hO
    rw [e9, e8]
    have hG := (h.gb i g hg).1
    have hmod : ∀ (v : UserS) (w' : World), Row w' g 111 (userC v) → But g w w' → v.name = u.name → v.fails < 3 → UsersP G w' ub mb bl (l.set i v) ∧ Cg G w w' := fun v w' r b e f => ⟨h.modify hg hu r b e f, Cg.ofBut b hG⟩
    have HO := Lib.hid hO
    have HM := Lib.hid hmod
    have hr1 := hr.set 1 (.int .i64 ((u.fails : Int) + 1))
    by_cases h3 : u.fails + 1 < 3
    · have k3 : (u.fails : Int) + 1 < 3 := by omega
      rw [show decide (¬ u.fails + 1 < 3) = false by simp; omega]
      have hfin := hmod (failS now u) _ (by unfold failS; rw [if_pos h3]; simpa [userC] using hr1) (But.set _ _ _) (by unfold failS; rw [if_pos h3]) (by unfold failS; rw [if_pos h3]; exact h3)
      have HF := Lib.hid hfin
      clear hO hp h hg hge hu hue hne e9 e8 hmod hr hr1 hfin HM h3
      go_enter Tryz.func34, Tryz.ntmps34
      go_wp2_with (first
        | (go_at_call 61; refine HO.out.mono ?_; rintro e w1 ⟨rfl, rfl⟩)
        | (go_at_call 62; refine (add64 ⟨g, 1, none⟩ (u.fails : Int) _ (by omega) c1 z1).mono ?_; rintro e w2 ⟨rfl, rfl⟩))
      go_ret
      exact ⟨rfl, ⟨mb, bl, HF.out.1⟩, HF.out.2⟩
    · have k3 : ¬ (u.fails : Int) + 1 < 3 := by omega
      rw [show decide (¬ u.fails + 1 < 3) = true by simp; omega]
      have d1 := hr1.cell 1 (by simp [userC])
      have y1 := hr1.frozen 1 (by simp [userC])
      simp [userC] at d1
      have hr2 := hr1.set 1 (.int .i64 0)
      have d2 := hr2.cell 2 (by simp [userC])
      have y2 := hr2.frozen 2 (by simp [userC])
      have d3 := hr2.cell 3 (by simp [userC])
      have y3 := hr2.frozen 3 (by simp [userC])
      simp [userC] at d2 d3
      have hb2 : But g w ((w.setCell ⟨g, 1, none⟩ (.int .i64 ((u.fails : Int) + 1))).setCell ⟨g, 1, none⟩ (.int .i64 0)) := (But.set _ _ _).trans (But.set _ _ _)
      obtain ⟨w1, hw1⟩ : ∃ x, x = w.setCell ⟨g, 1, none⟩ (.int .i64 ((u.fails : Int) + 1)) := ⟨_, rfl⟩
      rw [← hw1] at d1 y1 hr2 d2 y2 d3 y3 hb2
      obtain ⟨w2, hw2⟩ : ∃ x, x = w1.setCell ⟨g, 1, none⟩ (.int .i64 0) := ⟨_, rfl⟩
      rw [← hw2] at hr2 d2 y2 d3 y3 hb2
      have hr3 := hr2.set 2 (.bool true)
      have hr4 := hr3.set 3 (.int .i64 now)
      have hb4 := (hb2.trans (But.set (w2) 2 (.bool true))).trans (But.set _ 3 (.int .i64 now))
      have HW1 := Lib.hid hw1
      have HW2 := Lib.hid hw2
      by_cases h4 : now ≤ 9223372036854775787
      · have kw : IntKind.i64.wrap (now + 20) = now + 20 := by rw [IntKind.wrap_i64]; omega
        have hr5 := hr4.set 3 (.int .i64 (now + 20))
        have hb5 := hb4.trans (But.set _ 3 (.int .i64 (now + 20)))
        have hfin := hmod (failS now u) _ (by unfold failS; rw [if_neg h3, if_pos h4]; simpa [userC] using hr5) hb5 (by unfold failS; rw [if_neg h3]) (by unfold failS; rw [if_neg h3]; show 0 < 3; decide)
        have HF := Lib.hid hfin
        clear hO hp h hg hge hu hue hne e9 e8 hmod hr hr1 hfin HM h3 hr2 hr3 hr4 hr5 hb2 hb4 hb5 hw1 hw2
        go_enter Tryz.func34, Tryz.ntmps34
        go_wp2_with (first
          | (go_at_call 61; refine HO.out.mono ?_; rintro e w3 ⟨rfl, rfl⟩)
          | (go_at_call 62; refine (add64 ⟨g, 1, none⟩ (u.fails : Int) _ (by omega) c1 z1).mono ?_; rintro e w3 ⟨rfl, rfl⟩; rw [← HW1.out])
          | (go_at_call 47; refine (store64 _ _ _ _ d1 y1).mono ?_; rintro e w3 ⟨rfl, rfl⟩; rw [← HW2.out]))
        go_ret
        exact ⟨rfl, ⟨mb, bl, HF.out.1⟩, HF.out.2⟩
      · have k4 : ¬ now ≤ 9223372036854775787 := h4
        have hr5 := hr4.set 3 (.int .i64 9223372036854775807)
        have hb5 := hb4.trans (But.set _ 3 (.int .i64 9223372036854775807))
        have hfin := hmod (failS now u) _ (by unfold failS; rw [if_neg h3, if_neg h4]; simpa [userC] using hr5) hb5 (by unfold failS; rw [if_neg h3]) (by unfold failS; rw [if_neg h3]; show 0 < 3; decide)
        have HF := Lib.hid hfin
        clear hO hp h hg hge hu hue hne e9 e8 hmod hr hr1 hfin HM h3 hr2 hr3 hr4 hr5 hb2 hb4 hb5 hw1 hw2
        go_enter Tryz.func34, Tryz.ntmps34
        go_wp2_with (first
          | (go_at_call 61; refine HO.out.mono ?_; rintro e w3 ⟨rfl, rfl⟩)
          | (go_at_call 62; refine (add64 ⟨g, 1, none⟩ (u.fails : Int) _ (by omega) c1 z1).mono ?_; rintro e w3 ⟨rfl, rfl⟩; rw [← HW1.out])
          | (go_at_call 47; refine (store64 _ _ _ _ d1 y1).mono ?_; rintro e w3 ⟨rfl, rfl⟩; rw [← HW2.out]))
        go_ret
        exact ⟨rfl, ⟨mb, bl, HF.out.1⟩, HF.out.2⟩
end Go.Proofs.YtlbdbmnkjljohaaGreat
namespace Go.Esc
open Go Go.RowKit
section
variable {P : Program} {ops : Array Oper} {Q : Exit → Act → World → Prop}
theorem op_doneB {g : Nat} {Φ : Value → World → Prop} {i : Nat} {o : Oper} {a' : Act} {w' w'' : World} (ho : ops[i]? = some o) (hw : Region.wanted o (yielded ops a'.tmps) = true)
    (hrun : (execOp a'.eval o).run P w' = .ok .skip w'') (hφ : Φ (if o.dst.isSome then undef else undef) w'') (hp : But g w' w'') :
    wpOp P ops Q i (fun a'' w'' => ∃ v, a'' = a'.put o.dst v ∧ Φ (if o.dst.isSome then v else undef) w'' ∧ But g w' w'') a' w' := by
  unfold wpOp
  simp only [ho, hw, if_true]
  refine .inl ?_
  unfold Oper.wp
  rw [hrun]
  exact ⟨undef, rfl, hφ, hp⟩
end
end Go.Esc
namespace Go.Esc
open Go Go.RowKit
def opsOf : Code → Nat → Array Oper
  | .region i o _, n => if i = n then o else #[]
  | .seq a b, n => let x := opsOf a n; if x.size = 0 then opsOf b n else x
  | .cond _ a b, n => let x := opsOf a n; if x.size = 0 then opsOf b n else x
  | .block _ b, n => opsOf b n
  | .loop b, n => opsOf b n
  | .scope b, n => opsOf b n
  | _, _ => #[]
def opsIn (f : Func) (n : Nat) : Array Oper := match f.body with | some c => opsOf c n | none => #[]
end Go.Esc
namespace Go.Proofs.YtlbdbmnkjljohaaGreat
open Go.RowKit Go.Esc
theorem refRight (x : BitVec 32) (n : Int) (h1 : 0 < n) (h2 : n < 32) (w : World) :
    Calls Tryz.prog 78 #[V x, .int .i64 (-n)] w fun e w' => e = .returned (V (rotr x n.toNat)) ∧ w' = w := by
  have e : (-n % 32).toNat = (32 - n.toNat % 32) % 32 := by omega
  have hl := refLeft x (-n) (by omega) (by omega) w
  rw [e] at hl
  exact hl
theorem refLeftRun : ∀ args w, (callFunc 78 args).run Tryz.prog w = .ok (.enter 78 args) w := fun args w => run_callFunc_body Tryz.func78 (by kernel_rfl) (by kernel_rfl) args w
theorem wrap32_wd (y : Wd) : IntKind.u32.wrap (wd y) = wd y := by have := wd_nonneg y; have := wd_lt y; rw [IntKind.wrap_u32]; omega
def row27 (x : St) (T1 T2 : Wd) : List Value := [V (T1 + T2), V x.a, V x.b, V x.c, V (x.d + T1), V x.e, V x.f, V x.g]
def t1Of (x : St) (kn wn : Wd) : Wd := x.h + (rotr x.e 6 ^^^ rotr x.e 11 ^^^ rotr x.e 25) + (x.e &&& x.f ^^^ ~~~x.e &&& x.g) + kn + wn
def t2Of (x : St) : Wd := (rotr x.a 2 ^^^ rotr x.a 13 ^^^ rotr x.a 22) + (x.a &&& x.b ^^^ x.a &&& x.c ^^^ x.b &&& x.c)
theorem row27_step (x : St) (kn wn : Wd) : row27 x (t1Of x kn wn) (t2Of x) = vs (Esc.step x kn wn).l := rfl
end Go.Proofs.YtlbdbmnkjljohaaGreat
set_option linter.unusedSimpArgs false
set_option linter.unusedVariables false
namespace Go.Proofs.YtlbdbmnkjljohaaGreat
open Go.RowKit Go.Esc
set_option maxRecDepth 100000 in
set_option maxHeartbeats 3200000 in
theorem reg16 {u0 u1 u2 u3 u4 u5 u6 u9 u10 u11 u12 u13 u14 u15 u16 u17 u18 u19 u20 u21 u22 u23 u24 u25 u26 u27 u28 u29 u30 u31 u32 u33 u34 u35 u36 u37 u38 u39 u40 u41 u42 u43 u44 u45 u46 u47 u48 u49 u50 u51 u52 u53 u54 u55 u56 u57 u58 u59 u60 u61 u62 u63 u64 u65 u66 u67 u68 u69 u70 u71 u72 u73 u74 u75 u76 u77 u78 u79 u80 u81 u82 u83 u84 u85 u86 u87 u88 u89 u90 u91 u92 u93 u94 u95 u96 u97 u98 u99 u100 u101 u102 u103 u104 u105 u106 u107 u108 u109 u110 u111 u112 u113 u114 u115 u116 u117 u118 u119 u120 u121 u122 u123 u124 u125 u126 u127 u128 u129 u130 u131 u132 u133 u134 u135 u136 u137 u138 u139 u140 u141 u142 u143 u144 u145 u146 u147 u148 u149 u150 u151 u152 u153 u154 u155 u156 u157 u158 u159 u160 u161 u162 u163 u164 u165 u166 u167 u168 u169 u170 u171 u172 u173 u174 u175 u176 u177 u178 u179 u180 u181 u182 u183 u184 u185 u186 u187 u188 u189 u190 u191 u192 u193 u194 u195 u196 u197 u198 u199 u200 u201 u202 u203 u204 u205 u206 u207 u208 u209 u210 u211 u212 u213 u214 u215 u216 u217 u218 u219 u220 u221 u222 u223 u224 u225 u226 u227 u228 u229 u230 u231 u232 u233 u234 : Value} {wb t : Nat} {xx yy : Wd} (ht : t < 64) (h16 : 16 ≤ t) {w : World} {Q : Exit → Act → World → Prop} (h1 : ∀ w', Pu w w' → w'.cell? ⟨wb, t - 15, none⟩ = some (V xx)) (h2 : ∀ w', Pu w w' → w'.cell? ⟨wb, t - 2, none⟩ = some (V yy))
    (hQ : ∀ (w' : World), Pu w w' → Q .normal ⟨#[u0, u1, u2, u3, u4, u5, u6, (.pointer (some ⟨wb, 0, none⟩)), (.int .i64 (t : Int)), (V xx), (V yy), u11, u12, u13, u14, u15, u16, u17, u18, u19, u20, u21, u22, u23, u24, u25, u26, u27, u28, u29, u30, u31, u32, u33, u34, u35, u36, u37, u38, u39, u40, u41, u42, u43, u44, u45, u46, u47, u48, u49, u50, u51, u52, u53, u54, u55, u56, u57, u58, u59, u60, u61, u62, u63, u64, u65, (.int .i64 (t : Int)), (.int .i64 ((t : Int) - 15)), (.pointer (some ⟨wb, t - 15, none⟩)), (V xx), (.int .i64 (t : Int)), (.int .i64 ((t : Int) - 2)), (.pointer (some ⟨wb, t - 2, none⟩)), (V yy), u74, u75, u76, u77, u78, u79, u80, u81, u82, u83, u84, u85, u86, u87, u88, u89, u90, u91, u92, u93, u94, u95, u96, u97, u98, u99, u100, u101, u102, u103, u104, u105, u106, u107, u108, u109, u110, u111, u112, u113, u114, u115, u116, u117, u118, u119, u120, u121, u122, u123, u124, u125, u126, u127, u128, u129, u130, u131, u132, u133, u134, u135, u136, u137, u138, u139, u140, u141, u142, u143, u144, u145, u146, u147, u148, u149, u150, u151, u152, u153, u154, u155, u156, u157, u158, u159, u160, u161, u162, u163, u164, u165, u166, u167, u168, u169, u170, u171, u172, u173, u174, u175, u176, u177, u178, u179, u180, u181, u182, u183, u184, u185, u186, u187, u188, u189, u190, u191, u192, u193, u194, u195, u196, u197, u198, u199, u200, u201, u202, u203, u204, u205, u206, u207, u208, u209, u210, u211, u212, u213, u214, u215, u216, u217, u218, u219, u220, u221, u222, u223, u224, u225, u226, u227, u228, u229, u230, u231, u232, u233, u234], []⟩ w') :
    (Code.region 16 (opsIn Tryz.f57 16) true).wp Tryz.prog Q ⟨#[u0, u1, u2, u3, u4, u5, u6, (.pointer (some ⟨wb, 0, none⟩)), (.int .i64 (t : Int)), u9, u10, u11, u12, u13, u14, u15, u16, u17, u18, u19, u20, u21, u22, u23, u24, u25, u26, u27, u28, u29, u30, u31, u32, u33, u34, u35, u36, u37, u38, u39, u40, u41, u42, u43, u44, u45, u46, u47, u48, u49, u50, u51, u52, u53, u54, u55, u56, u57, u58, u59, u60, u61, u62, u63, u64, u65, u66, u67, u68, u69, u70, u71, u72, u73, u74, u75, u76, u77, u78, u79, u80, u81, u82, u83, u84, u85, u86, u87, u88, u89, u90, u91, u92, u93, u94, u95, u96, u97, u98, u99, u100, u101, u102, u103, u104, u105, u106, u107, u108, u109, u110, u111, u112, u113, u114, u115, u116, u117, u118, u119, u120, u121, u122, u123, u124, u125, u126, u127, u128, u129, u130, u131, u132, u133, u134, u135, u136, u137, u138, u139, u140, u141, u142, u143, u144, u145, u146, u147, u148, u149, u150, u151, u152, u153, u154, u155, u156, u157, u158, u159, u160, u161, u162, u163, u164, u165, u166, u167, u168, u169, u170, u171, u172, u173, u174, u175, u176, u177, u178, u179, u180, u181, u182, u183, u184, u185, u186, u187, u188, u189, u190, u191, u192, u193, u194, u195, u196, u197, u198, u199, u200, u201, u202, u203, u204, u205, u206, u207, u208, u209, u210, u211, u212, u213, u214, u215, u216, u217, u218, u219, u220, u221, u222, u223, u224, u225, u226, u227, u228, u229, u230, u231, u232, u233, u234], []⟩ w := by
  dsimp only [opsIn, opsOf, Tryz.f57]
  have e15 : ((t : Int) - 15).toNat = t - 15 := by omega
  have e2 : ((t : Int) - 2).toNat = t - 2 := by omega
  have e16 : ((t : Int) - 16).toNat = t - 16 := by omega
  have e7 : ((t : Int) - 7).toNat = t - 7 := by omega
  have f15 : (0 : Int) ≤ t - 15 := by omega
  have f2 : (0 : Int) ≤ t - 2 := by omega
  have f16 : (0 : Int) ≤ t - 16 := by omega
  have f7 : (0 : Int) ≤ t - 7 := by omega
  have g15 : (t : Int) - 15 < 64 := by omega
  have g2 : (t : Int) - 2 < 64 := by omega
  have g16 : (t : Int) - 16 < 64 := by omega
  have g7 : (t : Int) - 7 < 64 := by omega
  have i15 : IntKind.i64.wrap ((t : Int) - 15) = t - 15 := by rw [IntKind.wrap_i64]; omega
  have i2 : IntKind.i64.wrap ((t : Int) - 2) = t - 2 := by rw [IntKind.wrap_i64]; omega
  have i16 : IntKind.i64.wrap ((t : Int) - 16) = t - 16 := by rw [IntKind.wrap_i64]; omega
  have i7 : IntKind.i64.wrap ((t : Int) - 7) = t - 7 := by rw [IntKind.wrap_i64]; omega
  have h0t : (0 : Int) ≤ t := by omega
  have h64t : (t : Int) < 64 := by omega
  have q16 : (16 : Int) ≤ t := by omega
  have q15 : (15 : Int) ≤ t := by omega
  have q2 : (2 : Int) ≤ t := by omega
  have q7 : (7 : Int) ≤ t := by omega
  apply region_pu (Φs := (Is _ :: Is _ :: Is _ :: Is _ :: Is _ :: Is _ :: Is _ :: Is _ :: Is _ :: Is _ :: [])) (hm := by kernel_rfl) (hE := by kernel_rfl) (hD := by kernel_rfl) (hsize := by kernel_rfl)
  case hop =>
    refine ⟨?_, ?_, ?_, ?_, ?_, ?_, ?_, ?_, ?_, ?_, trivial⟩
    · intro a' w' hs hp he
      have e8 := hs 8 (by kernel_rfl)
      try simp [Is, Region.binds] at he
      exact op_val rfl (wanted_none rfl) (by first | (go_simp; done) | (go_simp; rfl) | (simp [execOp, Act.eval, go_sem, *]; done) | (simp [execOp, Act.eval, go_sem, *]; rfl)) rfl (Pu.refl _)
    · intro a' w' hs hp he
      try simp [Is, Region.binds] at he
      exact op_val rfl (wanted_none rfl) (by first | (go_simp; done) | (go_simp; rfl) | (simp [execOp, Act.eval, go_sem, *]; done) | (simp [execOp, Act.eval, go_sem, *]; rfl)) rfl (Pu.refl _)
    · intro a' w' hs hp he
      have e7 := hs 7 (by kernel_rfl)
      try simp [Is, Region.binds] at he
      exact op_val rfl (wanted_none rfl) (by first | (go_simp; done) | (go_simp; rfl) | (simp [execOp, Act.eval, go_sem, *]; done) | (simp [execOp, Act.eval, go_sem, *]; rfl)) rfl (Pu.refl _)
    · intro a' w' hs hp he
      try simp [Is, Region.binds] at he
      have c := h1 w' hp; exact op_val rfl (wanted_none rfl) (by first | (go_simp; done) | (go_simp; rfl)) rfl (Pu.refl _)
    · intro a' w' hs hp he
      have e8 := hs 8 (by kernel_rfl)
      try simp [Is, Region.binds] at he
      exact op_val rfl (wanted_none rfl) (by first | (go_simp; done) | (go_simp; rfl) | (simp [execOp, Act.eval, go_sem, *]; done) | (simp [execOp, Act.eval, go_sem, *]; rfl)) rfl (Pu.refl _)
    · intro a' w' hs hp he
      try simp [Is, Region.binds] at he
      exact op_val rfl (wanted_none rfl) (by first | (go_simp; done) | (go_simp; rfl) | (simp [execOp, Act.eval, go_sem, *]; done) | (simp [execOp, Act.eval, go_sem, *]; rfl)) rfl (Pu.refl _)
    · intro a' w' hs hp he
      have e7 := hs 7 (by kernel_rfl)
      try simp [Is, Region.binds] at he
      exact op_val rfl (wanted_none rfl) (by first | (go_simp; done) | (go_simp; rfl) | (simp [execOp, Act.eval, go_sem, *]; done) | (simp [execOp, Act.eval, go_sem, *]; rfl)) rfl (Pu.refl _)
    · intro a' w' hs hp he
      try simp [Is, Region.binds] at he
      have c := h2 w' hp; exact op_val rfl (wanted_none rfl) (by first | (go_simp; done) | (go_simp; rfl)) rfl (Pu.refl _)
    · intro a' w' hs hp he
      try simp [Is, Region.binds] at he
      exact op_val rfl (wanted_none rfl) (by first | (go_simp; done) | (go_simp; rfl) | (simp [execOp, Act.eval, go_sem, *]; done) | (simp [execOp, Act.eval, go_sem, *]; rfl)) rfl (Pu.refl _)
    · intro a' w' hs hp he
      try simp [Is, Region.binds] at he
      exact op_val rfl (wanted_none rfl) (by first | (go_simp; done) | (go_simp; rfl) | (simp [execOp, Act.eval, go_sem, *]; done) | (simp [execOp, Act.eval, go_sem, *]; rfl)) rfl (Pu.refl _)
  case hend =>
    intro a' w' hdef hsz hs hp hall
    obtain ⟨r0, r1, r2, r3, r4, r5, r6, r7, r8, r9, -⟩ := hall
    have hA := agree_done (agree_step (agree_step (agree_step (agree_step (agree_step (agree_step (agree_step (agree_step (agree_step (agree_step (agree_init [66, 67, 68, 69, 70, 71, 72, 73, 9, 10] hsz hs (by kernel_rfl)) r0) r1) r2) r3) r4) r5) r6) r7) r8) r9)
    have ha := act_of hA hdef
    rw [ha]
    clear ha hA hs hsz hdef r0 r1 r2 r3 r4 r5 r6 r7 r8 r9 
    (try simp only [List.setIfInBounds_toArray])
    (try dsimp only [List.set_cons_zero, List.set_cons_succ])
    (try simp only [Exit.then])
    exact hQ _ hp
end Go.Proofs.YtlbdbmnkjljohaaGreat
set_option linter.unusedSimpArgs false
set_option linter.unusedVariables false
namespace Go.Proofs.YtlbdbmnkjljohaaGreat
open Go.RowKit Go.Esc
set_option maxRecDepth 100000 in
set_option maxHeartbeats 3200000 in
theorem reg19 {u0 u1 u2 u3 u4 u5 u6 u9 u10 u13 u14 u15 u16 u17 u18 u19 u20 u21 u22 u23 u24 u25 u26 u27 u28 u29 u30 u31 u32 u33 u34 u35 u36 u37 u38 u39 u40 u41 u42 u43 u44 u45 u46 u47 u48 u49 u50 u51 u52 u53 u54 u55 u56 u57 u58 u59 u60 u61 u62 u63 u64 u65 u66 u67 u68 u69 u70 u71 u72 u73 u74 u75 u76 u77 u78 u79 u80 u81 u82 u83 u84 u85 u86 u87 u88 u89 u90 u91 u92 u93 u94 u95 u96 u97 u98 u99 u100 u101 u102 u103 u104 u105 u106 u107 u108 u109 u110 u111 u112 u113 u114 u115 u116 u117 u118 u119 u120 u121 u122 u123 u124 u125 u126 u127 u128 u129 u130 u131 u132 u133 u134 u135 u136 u137 u138 u139 u140 u141 u142 u143 u144 u145 u146 u147 u148 u149 u150 u151 u152 u153 u154 u155 u156 u157 u158 u159 u160 u161 u162 u163 u164 u165 u166 u167 u168 u169 u170 u171 u172 u173 u174 u175 u176 u177 u178 u179 u180 u181 u182 u183 u184 u185 u186 u187 u188 u189 u190 u191 u192 u193 u194 u195 u196 u197 u198 u199 u200 u201 u202 u203 u204 u205 u206 u207 u208 u209 u210 u211 u212 u213 u214 u215 u216 u217 u218 u219 u220 u221 u222 u223 u224 u225 u226 u227 u228 u229 u230 u231 u232 u233 u234 : Value} {wb t : Nat} {aa dd s0 s1 : Wd} {c0 : Value} (ht : t < 64) (h16 : 16 ≤ t) {w : World} {Q : Exit → Act → World → Prop} (h1 : ∀ w', Pu w w' → w'.cell? ⟨wb, t - 16, none⟩ = some (V aa)) (h2 : ∀ w', Pu w w' → w'.cell? ⟨wb, t - 7, none⟩ = some (V dd)) (h3 : ∀ w', Pu w w' → w'.cell? ⟨wb, t, none⟩ = some c0) (h4 : ∀ w', Pu w w' → w'.frozen? ⟨wb, t, none⟩ = false)
    (hQ : ∀ (w' : World), Pu w w' → Q .normal ⟨#[u0, u1, u2, u3, u4, u5, u6, (.pointer (some ⟨wb, 0, none⟩)), (.int .i64 (t : Int)), u9, u10, (V s0), (V s1), u13, u14, u15, u16, u17, u18, u19, u20, u21, u22, u23, u24, u25, u26, u27, u28, u29, u30, u31, u32, u33, u34, u35, u36, u37, u38, u39, u40, u41, u42, u43, u44, u45, u46, u47, u48, u49, u50, u51, u52, u53, u54, u55, u56, u57, u58, u59, u60, u61, u62, u63, u64, u65, u66, u67, u68, u69, u70, u71, u72, u73, u74, u75, u76, u77, u78, u79, u80, u81, u82, u83, u84, u85, u86, u87, u88, u89, (.int .i64 (t : Int)), (.int .i64 (t : Int)), (.int .i64 ((t : Int) - 16)), (.pointer (some ⟨wb, t - 16, none⟩)), (V aa), (V s0), (V (aa + s0)), (.int .i64 (t : Int)), (.int .i64 ((t : Int) - 7)), (.pointer (some ⟨wb, t - 7, none⟩)), (V dd), (V (aa + s0 + dd)), (V s1), (V (aa + s0 + dd + s1)), (.pointer (some ⟨wb, t, none⟩)), u105, u106, u107, u108, u109, u110, u111, u112, u113, u114, u115, u116, u117, u118, u119, u120, u121, u122, u123, u124, u125, u126, u127, u128, u129, u130, u131, u132, u133, u134, u135, u136, u137, u138, u139, u140, u141, u142, u143, u144, u145, u146, u147, u148, u149, u150, u151, u152, u153, u154, u155, u156, u157, u158, u159, u160, u161, u162, u163, u164, u165, u166, u167, u168, u169, u170, u171, u172, u173, u174, u175, u176, u177, u178, u179, u180, u181, u182, u183, u184, u185, u186, u187, u188, u189, u190, u191, u192, u193, u194, u195, u196, u197, u198, u199, u200, u201, u202, u203, u204, u205, u206, u207, u208, u209, u210, u211, u212, u213, u214, u215, u216, u217, u218, u219, u220, u221, u222, u223, u224, u225, u226, u227, u228, u229, u230, u231, u232, u233, u234], []⟩ (w'.setCell ⟨wb, t, none⟩ (V (aa + s0 + dd + s1)))) :
    (Code.region 19 (opsIn Tryz.f57 19) true).wp Tryz.prog Q ⟨#[u0, u1, u2, u3, u4, u5, u6, (.pointer (some ⟨wb, 0, none⟩)), (.int .i64 (t : Int)), u9, u10, (V s0), (V s1), u13, u14, u15, u16, u17, u18, u19, u20, u21, u22, u23, u24, u25, u26, u27, u28, u29, u30, u31, u32, u33, u34, u35, u36, u37, u38, u39, u40, u41, u42, u43, u44, u45, u46, u47, u48, u49, u50, u51, u52, u53, u54, u55, u56, u57, u58, u59, u60, u61, u62, u63, u64, u65, u66, u67, u68, u69, u70, u71, u72, u73, u74, u75, u76, u77, u78, u79, u80, u81, u82, u83, u84, u85, u86, u87, u88, u89, u90, u91, u92, u93, u94, u95, u96, u97, u98, u99, u100, u101, u102, u103, u104, u105, u106, u107, u108, u109, u110, u111, u112, u113, u114, u115, u116, u117, u118, u119, u120, u121, u122, u123, u124, u125, u126, u127, u128, u129, u130, u131, u132, u133, u134, u135, u136, u137, u138, u139, u140, u141, u142, u143, u144, u145, u146, u147, u148, u149, u150, u151, u152, u153, u154, u155, u156, u157, u158, u159, u160, u161, u162, u163, u164, u165, u166, u167, u168, u169, u170, u171, u172, u173, u174, u175, u176, u177, u178, u179, u180, u181, u182, u183, u184, u185, u186, u187, u188, u189, u190, u191, u192, u193, u194, u195, u196, u197, u198, u199, u200, u201, u202, u203, u204, u205, u206, u207, u208, u209, u210, u211, u212, u213, u214, u215, u216, u217, u218, u219, u220, u221, u222, u223, u224, u225, u226, u227, u228, u229, u230, u231, u232, u233, u234], []⟩ w := by
  dsimp only [opsIn, opsOf, Tryz.f57]
  have e15 : ((t : Int) - 15).toNat = t - 15 := by omega
  have e2 : ((t : Int) - 2).toNat = t - 2 := by omega
  have e16 : ((t : Int) - 16).toNat = t - 16 := by omega
  have e7 : ((t : Int) - 7).toNat = t - 7 := by omega
  have f15 : (0 : Int) ≤ t - 15 := by omega
  have f2 : (0 : Int) ≤ t - 2 := by omega
  have f16 : (0 : Int) ≤ t - 16 := by omega
  have f7 : (0 : Int) ≤ t - 7 := by omega
  have g15 : (t : Int) - 15 < 64 := by omega
  have g2 : (t : Int) - 2 < 64 := by omega
  have g16 : (t : Int) - 16 < 64 := by omega
  have g7 : (t : Int) - 7 < 64 := by omega
  have i15 : IntKind.i64.wrap ((t : Int) - 15) = t - 15 := by rw [IntKind.wrap_i64]; omega
  have i2 : IntKind.i64.wrap ((t : Int) - 2) = t - 2 := by rw [IntKind.wrap_i64]; omega
  have i16 : IntKind.i64.wrap ((t : Int) - 16) = t - 16 := by rw [IntKind.wrap_i64]; omega
  have i7 : IntKind.i64.wrap ((t : Int) - 7) = t - 7 := by rw [IntKind.wrap_i64]; omega
  have h0t : (0 : Int) ≤ t := by omega
  have h64t : (t : Int) < 64 := by omega
  have q16 : (16 : Int) ≤ t := by omega
  have q15 : (15 : Int) ≤ t := by omega
  have q2 : (2 : Int) ≤ t := by omega
  have q7 : (7 : Int) ≤ t := by omega
  apply region_last (n := 15) (hn := by kernel_rfl) (hlast := rfl) (hU := by kernel_rfl) (Φs := (Is _ :: Is _ :: Is _ :: Is _ :: Is _ :: Is _ :: Is _ :: Is _ :: Is _ :: Is _ :: Is _ :: Is _ :: Is _ :: Is _ :: Is _ :: [])) (hm := by kernel_rfl) (hE := by kernel_rfl) (hD := by kernel_rfl) (hsize := by kernel_rfl)
  case hop =>
    refine ⟨?_, ?_, ?_, ?_, ?_, ?_, ?_, ?_, ?_, ?_, ?_, ?_, ?_, ?_, ?_, trivial⟩
    · intro a' w' hs hp he
      have e8 := hs 8 (by kernel_rfl)
      try simp [Is, Region.binds] at he
      exact op_val rfl (wanted_none rfl) (by first | (go_simp; done) | (go_simp; rfl) | (simp [execOp, Act.eval, go_sem, *]; done) | (simp [execOp, Act.eval, go_sem, *]; rfl)) rfl (Pu.refl _)
    · intro a' w' hs hp he
      have e8 := hs 8 (by kernel_rfl)
      try simp [Is, Region.binds] at he
      exact op_val rfl (wanted_none rfl) (by first | (go_simp; done) | (go_simp; rfl) | (simp [execOp, Act.eval, go_sem, *]; done) | (simp [execOp, Act.eval, go_sem, *]; rfl)) rfl (Pu.refl _)
    · intro a' w' hs hp he
      try simp [Is, Region.binds] at he
      exact op_val rfl (wanted_none rfl) (by first | (go_simp; done) | (go_simp; rfl) | (simp [execOp, Act.eval, go_sem, *]; done) | (simp [execOp, Act.eval, go_sem, *]; rfl)) rfl (Pu.refl _)
    · intro a' w' hs hp he
      have e7 := hs 7 (by kernel_rfl)
      try simp [Is, Region.binds] at he
      exact op_val rfl (wanted_none rfl) (by first | (go_simp; done) | (go_simp; rfl) | (simp [execOp, Act.eval, go_sem, *]; done) | (simp [execOp, Act.eval, go_sem, *]; rfl)) rfl (Pu.refl _)
    · intro a' w' hs hp he
      try simp [Is, Region.binds] at he
      have c := h1 w' hp; exact op_val rfl (wanted_none rfl) (by first | (go_simp; done) | (go_simp; rfl)) rfl (Pu.refl _)
    · intro a' w' hs hp he
      have e11 := hs 11 (by kernel_rfl)
      try simp [Is, Region.binds] at he
      exact op_val rfl (wanted_none rfl) (by first | (go_simp; done) | (go_simp; rfl) | (simp [execOp, Act.eval, go_sem, *]; done) | (simp [execOp, Act.eval, go_sem, *]; rfl)) rfl (Pu.refl _)
    · intro a' w' hs hp he
      try simp [Is, Region.binds] at he
      exact op_val rfl (wanted_none rfl) (by first | (go_simp; done) | (go_simp; rfl) | (simp [execOp, Act.eval, go_sem, *]; done) | (simp [execOp, Act.eval, go_sem, *]; rfl)) rfl (Pu.refl _)
    · intro a' w' hs hp he
      have e8 := hs 8 (by kernel_rfl)
      try simp [Is, Region.binds] at he
      exact op_val rfl (wanted_none rfl) (by first | (go_simp; done) | (go_simp; rfl) | (simp [execOp, Act.eval, go_sem, *]; done) | (simp [execOp, Act.eval, go_sem, *]; rfl)) rfl (Pu.refl _)
    · intro a' w' hs hp he
      try simp [Is, Region.binds] at he
      exact op_val rfl (wanted_none rfl) (by first | (go_simp; done) | (go_simp; rfl) | (simp [execOp, Act.eval, go_sem, *]; done) | (simp [execOp, Act.eval, go_sem, *]; rfl)) rfl (Pu.refl _)
    · intro a' w' hs hp he
      have e7 := hs 7 (by kernel_rfl)
      try simp [Is, Region.binds] at he
      exact op_val rfl (wanted_none rfl) (by first | (go_simp; done) | (go_simp; rfl) | (simp [execOp, Act.eval, go_sem, *]; done) | (simp [execOp, Act.eval, go_sem, *]; rfl)) rfl (Pu.refl _)
    · intro a' w' hs hp he
      try simp [Is, Region.binds] at he
      have c := h2 w' hp; exact op_val rfl (wanted_none rfl) (by first | (go_simp; done) | (go_simp; rfl)) rfl (Pu.refl _)
    · intro a' w' hs hp he
      try simp [Is, Region.binds] at he
      exact op_val rfl (wanted_none rfl) (by first | (go_simp; done) | (go_simp; rfl) | (simp [execOp, Act.eval, go_sem, *]; done) | (simp [execOp, Act.eval, go_sem, *]; rfl)) rfl (Pu.refl _)
    · intro a' w' hs hp he
      have e12 := hs 12 (by kernel_rfl)
      try simp [Is, Region.binds] at he
      exact op_val rfl (wanted_none rfl) (by first | (go_simp; done) | (go_simp; rfl) | (simp [execOp, Act.eval, go_sem, *]; done) | (simp [execOp, Act.eval, go_sem, *]; rfl)) rfl (Pu.refl _)
    · intro a' w' hs hp he
      try simp [Is, Region.binds] at he
      exact op_val rfl (wanted_none rfl) (by first | (go_simp; done) | (go_simp; rfl) | (simp [execOp, Act.eval, go_sem, *]; done) | (simp [execOp, Act.eval, go_sem, *]; rfl)) rfl (Pu.refl _)
    · intro a' w' hs hp he
      have e7 := hs 7 (by kernel_rfl)
      try simp [Is, Region.binds] at he
      exact op_val rfl (wanted_none rfl) (by first | (go_simp; done) | (go_simp; rfl) | (simp [execOp, Act.eval, go_sem, *]; done) | (simp [execOp, Act.eval, go_sem, *]; rfl)) rfl (Pu.refl _)
  case hend =>
    intro a' w' hdef hsz hs hp hall
    obtain ⟨r0, r1, r2, r3, r4, r5, r6, r7, r8, r9, r10, r11, r12, r13, r14, -⟩ := hall
    have hA := agree_done (agree_step (agree_step (agree_step (agree_step (agree_step (agree_step (agree_step (agree_step (agree_step (agree_step (agree_step (agree_step (agree_step (agree_step (agree_step (agree_init [90, 91, 92, 93, 94, 95, 96, 97, 98, 99, 100, 101, 102, 103, 104] hsz hs (by kernel_rfl)) r0) r1) r2) r3) r4) r5) r6) r7) r8) r9) r10) r11) r12) r13) r14)
    have ha := act_of hA hdef
    rw [ha]
    clear ha hA hs hsz hdef r0 r1 r2 r3 r4 r5 r6 r7 r8 r9 r10 r11 r12 r13 r14 
    (try simp only [List.setIfInBounds_toArray])
    (try dsimp only [List.set_cons_zero, List.set_cons_succ])
    (try simp only [Exit.then])
    have hc := h3 w' hp; have hf := h4 w' hp
    refine op_done rfl (wanted_none rfl) (by first | (go_simp; done) | (go_simp; rfl)) ?_
    (try simp only [Exit.inBlock, Exit.then])
    exact hQ _ hp
end Go.Proofs.YtlbdbmnkjljohaaGreat
set_option linter.unusedSimpArgs false
set_option linter.unusedVariables false
namespace Go.Proofs.YtlbdbmnkjljohaaGreat
open Go.RowKit Go.Esc
set_option maxRecDepth 100000 in
set_option maxHeartbeats 3200000 in
theorem reg24 {u0 u1 u2 u3 u4 u5 u6 u7 u8 u9 u10 u11 u12 u14 u15 u16 u17 u18 u19 u20 u21 u22 u23 u24 u25 u26 u27 u28 u29 u30 u31 u32 u33 u34 u35 u36 u37 u38 u39 u40 u41 u42 u43 u44 u45 u46 u47 u48 u49 u50 u51 u52 u53 u54 u55 u56 u57 u58 u59 u60 u61 u62 u63 u64 u65 u66 u67 u68 u69 u70 u71 u72 u73 u74 u75 u76 u77 u78 u79 u80 u81 u82 u83 u84 u85 u86 u87 u88 u89 u90 u91 u92 u93 u94 u95 u96 u97 u98 u99 u100 u101 u102 u103 u104 u105 u106 u107 u108 u109 u110 u111 u112 u113 u114 u115 u116 u117 u118 u119 u120 u121 u122 u123 u124 u125 u126 u127 u128 u129 u130 u131 u132 u133 u134 u135 u136 u137 u138 u139 u140 u141 u142 u143 u144 u145 u146 u147 u148 u149 u150 u151 u152 u153 u154 u155 u156 u157 u158 u159 u160 u161 u162 u163 u164 u165 u166 u167 u168 u169 u170 u171 u172 u173 u174 u175 u176 u177 u178 u179 u180 u181 u182 u183 u184 u185 u186 u187 u188 u189 u190 u191 u192 u193 u194 u195 u196 u197 u198 u199 u200 u201 u202 u203 u204 u205 u206 u207 u208 u209 u210 u211 u212 u213 u214 u215 u216 u217 u218 u219 u220 u221 u222 u223 u224 u225 u226 u227 u228 u229 u230 u231 u232 u233 u234 : Value} {g cap : Nat} {x : St} {w : World} {Q : Exit → Act → World → Prop} (hx : Row w g 113 (vs x.l))
    (hQ : ∀ (w' : World), Pu w w' → Q .normal ⟨#[u0, u1, u2, u3, u4, u5, u6, u7, u8, u9, u10, u11, u12, (.slice (some ⟨g, 0, none⟩) 8 cap), u14, (V x.e), (V x.a), u17, u18, u19, u20, u21, u22, u23, u24, u25, u26, u27, u28, u29, u30, u31, u32, u33, u34, u35, u36, u37, u38, u39, u40, u41, u42, u43, u44, u45, u46, u47, u48, u49, u50, u51, u52, u53, u54, u55, u56, u57, u58, u59, u60, u61, u62, u63, u64, u65, u66, u67, u68, u69, u70, u71, u72, u73, u74, u75, u76, u77, u78, u79, u80, u81, u82, u83, u84, u85, u86, u87, u88, u89, u90, u91, u92, u93, u94, u95, u96, u97, u98, u99, u100, u101, u102, u103, u104, u105, u106, u107, u108, u109, u110, (.slice (some ⟨g, 0, none⟩) 8 cap), (.pointer (some ⟨g, 4, none⟩)), (V x.e), (.slice (some ⟨g, 0, none⟩) 8 cap), (.pointer (some ⟨g, 0, none⟩)), (V x.a), u117, u118, u119, u120, u121, u122, u123, u124, u125, u126, u127, u128, u129, u130, u131, u132, u133, u134, u135, u136, u137, u138, u139, u140, u141, u142, u143, u144, u145, u146, u147, u148, u149, u150, u151, u152, u153, u154, u155, u156, u157, u158, u159, u160, u161, u162, u163, u164, u165, u166, u167, u168, u169, u170, u171, u172, u173, u174, u175, u176, u177, u178, u179, u180, u181, u182, u183, u184, u185, u186, u187, u188, u189, u190, u191, u192, u193, u194, u195, u196, u197, u198, u199, u200, u201, u202, u203, u204, u205, u206, u207, u208, u209, u210, u211, u212, u213, u214, u215, u216, u217, u218, u219, u220, u221, u222, u223, u224, u225, u226, u227, u228, u229, u230, u231, u232, u233, u234], []⟩ w') :
    (Code.region 24 (opsIn Tryz.f57 24) true).wp Tryz.prog Q ⟨#[u0, u1, u2, u3, u4, u5, u6, u7, u8, u9, u10, u11, u12, (.slice (some ⟨g, 0, none⟩) 8 cap), u14, u15, u16, u17, u18, u19, u20, u21, u22, u23, u24, u25, u26, u27, u28, u29, u30, u31, u32, u33, u34, u35, u36, u37, u38, u39, u40, u41, u42, u43, u44, u45, u46, u47, u48, u49, u50, u51, u52, u53, u54, u55, u56, u57, u58, u59, u60, u61, u62, u63, u64, u65, u66, u67, u68, u69, u70, u71, u72, u73, u74, u75, u76, u77, u78, u79, u80, u81, u82, u83, u84, u85, u86, u87, u88, u89, u90, u91, u92, u93, u94, u95, u96, u97, u98, u99, u100, u101, u102, u103, u104, u105, u106, u107, u108, u109, u110, u111, u112, u113, u114, u115, u116, u117, u118, u119, u120, u121, u122, u123, u124, u125, u126, u127, u128, u129, u130, u131, u132, u133, u134, u135, u136, u137, u138, u139, u140, u141, u142, u143, u144, u145, u146, u147, u148, u149, u150, u151, u152, u153, u154, u155, u156, u157, u158, u159, u160, u161, u162, u163, u164, u165, u166, u167, u168, u169, u170, u171, u172, u173, u174, u175, u176, u177, u178, u179, u180, u181, u182, u183, u184, u185, u186, u187, u188, u189, u190, u191, u192, u193, u194, u195, u196, u197, u198, u199, u200, u201, u202, u203, u204, u205, u206, u207, u208, u209, u210, u211, u212, u213, u214, u215, u216, u217, u218, u219, u220, u221, u222, u223, u224, u225, u226, u227, u228, u229, u230, u231, u232, u233, u234], []⟩ w := by
  dsimp only [opsIn, opsOf, Tryz.f57]
  apply region_pu (Φs := (Is _ :: Is _ :: Is _ :: Is _ :: Is _ :: Is _ :: Is _ :: Is _ :: [])) (hm := by kernel_rfl) (hE := by kernel_rfl) (hD := by kernel_rfl) (hsize := by kernel_rfl)
  case hop =>
    refine ⟨?_, ?_, ?_, ?_, ?_, ?_, ?_, ?_, trivial⟩
    · intro a' w' hs hp he
      have e13 := hs 13 (by kernel_rfl)
      try simp [Is, Region.binds] at he
      exact op_val rfl (wanted_none rfl) (by first | (go_simp; done) | (go_simp; rfl) | (simp [execOp, Act.eval, go_sem, *]; done) | (simp [execOp, Act.eval, go_sem, *]; rfl)) rfl (Pu.refl _)
    · intro a' w' hs hp he
      try simp [Is, Region.binds] at he
      exact op_val rfl (wanted_none rfl) (by first | (go_simp; done) | (go_simp; rfl) | (simp [execOp, Act.eval, go_sem, *]; done) | (simp [execOp, Act.eval, go_sem, *]; rfl)) rfl (Pu.refl _)
    · intro a' w' hs hp he
      try simp [Is, Region.binds] at he
      obtain ⟨c0, c1, c2, c3, c4, c5, c6, c7⟩ := Row.st (hx.pu hp); exact op_val rfl (wanted_none rfl) (by first | (go_simp; done) | (go_simp; rfl)) rfl (Pu.refl _)
    · intro a' w' hs hp he
      have e13 := hs 13 (by kernel_rfl)
      try simp [Is, Region.binds] at he
      exact op_val rfl (wanted_none rfl) (by first | (go_simp; done) | (go_simp; rfl) | (simp [execOp, Act.eval, go_sem, *]; done) | (simp [execOp, Act.eval, go_sem, *]; rfl)) rfl (Pu.refl _)
    · intro a' w' hs hp he
      try simp [Is, Region.binds] at he
      exact op_val rfl (wanted_none rfl) (by first | (go_simp; done) | (go_simp; rfl) | (simp [execOp, Act.eval, go_sem, *]; done) | (simp [execOp, Act.eval, go_sem, *]; rfl)) rfl (Pu.refl _)
    · intro a' w' hs hp he
      try simp [Is, Region.binds] at he
      obtain ⟨c0, c1, c2, c3, c4, c5, c6, c7⟩ := Row.st (hx.pu hp); exact op_val rfl (wanted_none rfl) (by first | (go_simp; done) | (go_simp; rfl)) rfl (Pu.refl _)
    · intro a' w' hs hp he
      try simp [Is, Region.binds] at he
      exact op_val rfl (wanted_none rfl) (by first | (go_simp; done) | (go_simp; rfl) | (simp [execOp, Act.eval, go_sem, *]; done) | (simp [execOp, Act.eval, go_sem, *]; rfl)) rfl (Pu.refl _)
    · intro a' w' hs hp he
      try simp [Is, Region.binds] at he
      exact op_val rfl (wanted_none rfl) (by first | (go_simp; done) | (go_simp; rfl) | (simp [execOp, Act.eval, go_sem, *]; done) | (simp [execOp, Act.eval, go_sem, *]; rfl)) rfl (Pu.refl _)
  case hend =>
    intro a' w' hdef hsz hs hp hall
    obtain ⟨r0, r1, r2, r3, r4, r5, r6, r7, -⟩ := hall
    have hA := agree_done (agree_step (agree_step (agree_step (agree_step (agree_step (agree_step (agree_step (agree_step (agree_init [111, 112, 113, 114, 115, 116, 15, 16] hsz hs (by kernel_rfl)) r0) r1) r2) r3) r4) r5) r6) r7)
    have ha := act_of hA hdef
    rw [ha]
    clear ha hA hs hsz hdef r0 r1 r2 r3 r4 r5 r6 r7 
    (try simp only [List.setIfInBounds_toArray])
    (try dsimp only [List.set_cons_zero, List.set_cons_succ])
    (try simp only [Exit.then])
    exact hQ _ hp
end Go.Proofs.YtlbdbmnkjljohaaGreat
