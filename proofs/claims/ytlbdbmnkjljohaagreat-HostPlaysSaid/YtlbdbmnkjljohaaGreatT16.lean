/- Package shake: the host, letter for letter. Package users: New. Chapter 16: users, a guest and a host side by side. -/
import Derived.Test.YtlbdbmnkjljohaaGreatT15
set_option linter.unusedSimpArgs false
set_option linter.unusedVariables false
set_option linter.unusedSimpArgs false
set_option linter.unusedVariables false
namespace Go.Proofs.YtlbdbmnkjljohaaGreat
open Go.RowKit Go.Esc
def hst0 : HSt := ⟨0, false, [], [], false, [], []⟩
/-- What a letter does. -/
def gotR (nonce : Bs) (l : List UserS) (s : HSt) (b : Bs) (now : Int) : PrR :=
  if s.bad = true ∨ s.done = true then ⟨[], 7, s, l⟩
  else if s.got = 0 then ⟨(greetR nonce b).1, (greetR nonce b).2, { greetS nonce { s with got := s.got + 1 } b with bad := !decide ((greetR nonce b).2 = 0) }, l⟩
  else ⟨(provR l { s with got := s.got + 1 } b now).out, (provR l { s with got := s.got + 1 } b now).err, { (provR l { s with got := s.got + 1 } b now).st with bad := !decide ((provR l { s with got := s.got + 1 } b now).err = 0) }, (provR l { s with got := s.got + 1 } b now).l⟩
set_option maxRecDepth 100000 in
theorem newHost (ub : Nat) (nonce : Bs) (hn : nonce.length = 16) (w : World) :
    Calls Tryz.prog 29 #[.pointer (some ⟨ub, 0, none⟩), S nonce] w fun e w' => ∃ hb, e = .returned (.pointer (some ⟨hb, 0, none⟩)) ∧ HostAt w' hb ub nonce hst0 ∧ w.heap.size ≤ hb ∧ Pu w w' := by
  have k1 : (nonce.length : Int) = 16 := by omega
  have k2 : ((nonce.length : Int) != 16) = false := by simp; omega
  go_enter Tryz.func29, Tryz.ntmps29
  go_wp2_with fail
  go_ret
  exact ⟨_, rfl, Row.newAt _ _ _ _ rfl rfl, Nat.le_refl _, (Pu.refl _).alloc _⟩
section
variable {w : World} {hb ub : Nat} {nonce : Bs} {s : HSt}
set_option maxRecDepth 100000 in
theorem doneW (h : HostAt w hb ub nonce s) :
    Calls Tryz.prog 31 #[.pointer (some ⟨hb, 0, none⟩)] w fun e w' => e = .returned (.bool s.done) ∧ w' = w := by
  obtain ⟨c0, c1, c2, c3, c4, c5, c9⟩ := h.cells
  clear h
  go_enter Tryz.func31, Tryz.ntmps31
  go_wp2_with fail
  go_ret
  exact ⟨rfl, rfl⟩
set_option maxRecDepth 100000 in
theorem userW (h : HostAt w hb ub nonce s) :
    Calls Tryz.prog 32 #[.pointer (some ⟨hb, 0, none⟩)] w fun e w' => e = .returned (S s.user) ∧ w' = w := by
  obtain ⟨c0, c1, c2, c3, c4, c5, c9⟩ := h.cells
  clear h
  go_enter Tryz.func32, Tryz.ntmps32
  go_wp2_with fail
  go_ret
  exact ⟨rfl, rfl⟩
set_option maxRecDepth 100000 in
theorem hostKeys (h : HostAt w hb ub nonce s) :
    Calls Tryz.prog 33 #[.pointer (some ⟨hb, 0, none⟩)] w fun e w' => e = .returned (.agg #[S s.up, S s.down]) ∧ Pu w w' := by
  have hi2 : (Tryz.prog.info? 44).map (·.size) = some 2 := by kernel_rfl
  have hp0 := (Pu.refl w).alloc (.cells #[.string ⟨#[]⟩, .string ⟨#[]⟩] 44)
  have hr0 : Row (w.alloc (.cells #[.string ⟨#[]⟩, .string ⟨#[]⟩] 44)) w.heap.size 44 [S [], S []] := Row.newAt _ _ _ _ rfl rfl
  have hh : Row (w.alloc (.cells #[.string ⟨#[]⟩, .string ⟨#[]⟩] 44)) hb 123 (hostC ub nonce s) := Row.pu h hp0
  have htk : ((hostC ub nonce s).drop 10).take 2 = [S s.up, S s.down] := rfl
  have H := Lib.hid h
  have HTK := Lib.hid htk
  clear h htk
  go_enter Tryz.func33, Tryz.ntmps33
  go_wp2_with (first
    | (refine wpList_load_part rfl 44 (.tmp 8) rfl hb 10 2 (by rfl) hh Tryz.underlying44 rfl hi2 (by simp [hostC, hostV]) ?_; rw [HTK.out])
    | (refine wpList_store_part rfl 44 (.tmp 2) (.tmp 9) rfl w.heap.size 0 [S s.up, S s.down] (by rfl) (by rfl) hr0 hi2 (by simp) (by simp [Value.oneCell']) ?_; intro w4 hr4 hch4))
  rw [splice_all (by rfl)] at hr4
  have hrl := hr4.load (P := Tryz.prog) 44 0 2 Tryz.underlying44 rfl hi2 (by simp)
  (try simp only [Exit.inBlock, Exit.then])
  refine bodyPost_ret (results_cell_eq rfl _ _ rfl hrl) rfl ?_
  exact ⟨rfl, hch4.below hp0 (Nat.le_refl _)⟩
end
theorem HostAt.setBad {w : World} {hb ub : Nat} {nonce : Bs} {t : HSt} (h : HostAt w hb ub nonce t) (x : Bool) : HostAt (w.setCell ⟨hb, 3, none⟩ (.bool x)) hb ub nonce { t with bad := x } := Row.set (xs := hostC ub nonce t) h 3 (.bool x)
set_option maxRecDepth 100000 in
set_option maxHeartbeats 1600000 in
theorem gotW {G : Nat → Prop} {w : World} {hb ub : Nat} {nonce : Bs} {s : HSt} {l : List UserS} (h : HostAt w hb ub nonce s) (hu : UsersAt G w ub l) (hnG : ¬ G hb) (hn : nonce.length = 16) (hl : ∀ u ∈ l, u.secret.length = 32) (hul : s.user.length ≤ 1000000) (hpl : s.papers.length ≤ 10000) (hgo : s.got ≤ 1000) (b : Bs) (hbl : b.length ≤ 10000) (now : Int) (n1 : -9223372036854775808 ≤ now) (n2 : now ≤ 9223372036854775807) :
    Calls Tryz.prog 30 #[.pointer (some ⟨hb, 0, none⟩), S b, .int .i64 now] w fun e w' => e = .returned (.tuple #[S (gotR nonce l s b now).out, .int .i64 ((gotR nonce l s b now).err : Int)]) ∧ HostAt w' hb ub nonce (gotR nonce l s b now).st ∧ UsersAt G w' ub (gotR nonce l s b now).l ∧ Cg (fun g => G g ∨ g = hb) w w' := by
  obtain ⟨c0, c1, c2, c3, c4, c5, c9⟩ := h.cells
  by_cases hbd : s.bad = true
  · have e9 : gotR nonce l s b now = ⟨[], 7, s, l⟩ := by unfold gotR; rw [if_pos (.inl hbd)]
    rw [e9]
    rw [hbd] at c3
    have H := Lib.hid h
    have HU := Lib.hid hu
    clear h hu e9 hbd
    go_enter Tryz.func30, Tryz.ntmps30
    go_wp2_with fail
    go_ret2
    exact ⟨rfl, H.out, HU.out, Cg.refl _ _⟩
  by_cases hdn : s.done = true
  · have e9 : gotR nonce l s b now = ⟨[], 7, s, l⟩ := by unfold gotR; rw [if_pos (.inr hdn)]
    rw [e9]
    rw [show s.bad = false by simpa using hbd] at c3
    rw [hdn] at c9
    have H := Lib.hid h
    have HU := Lib.hid hu
    clear h hu e9 hbd hdn
    go_enter Tryz.func30, Tryz.ntmps30
    go_wp2_with fail
    go_ret2
    exact ⟨rfl, H.out, HU.out, Cg.refl _ _⟩
  have hb0 : s.bad = false := by simpa using hbd
  have hd0 : s.done = false := by simpa using hdn
  rw [hb0] at c3
  rw [hd0] at c9
  have y2 := h.fr 2 (by decide)
  have kw : IntKind.i64.wrap ((s.got : Int) + 1) = (s.got : Int) + 1 := by rw [IntKind.wrap_i64]; omega
  obtain ⟨s1, hs1⟩ : ∃ x : HSt, x = { s with got := s.got + 1 } := ⟨_, rfl⟩
  have h1 : HostAt (w.setCell ⟨hb, 2, none⟩ (.int .i64 ((s.got : Int) + 1))) hb ub nonce s1 := by
    have := Row.set (xs := hostC ub nonce s) h 2 (.int .i64 ((s.got : Int) + 1))
    rw [hs1]; exact this
  have hcg1 : Cg (fun g => G g ∨ g = hb) w (w.setCell ⟨hb, 2, none⟩ (.int .i64 ((s.got : Int) + 1))) := Cg.ofBut (But.set _ _ _) (.inr rfl)
  have hu1 : UsersAt G (w.setCell ⟨hb, 2, none⟩ (.int .i64 ((s.got : Int) + 1))) ub l := hu.cg (H := fun g => g = hb) (Cg.ofBut (But.set _ _ _) rfl) (fun g hg hG => hnG (hg ▸ hG))
  have hc1 := h1.cells.2.2.1
  rw [show ((s1.got : Int)) = (s.got : Int) + 1 by rw [hs1]; simp] at hc1
  have y23 : (w.setCell ⟨hb, 2, none⟩ (.int .i64 ((s.got : Int) + 1))).frozen? ⟨hb, 3, none⟩ = false := h1.fr 3 (by decide)
  by_cases hg0 : s.got = 0
  · have k1 : (s.got : Int) = 0 := by omega
    have kv : (s.got : Int) + 1 = 1 := by omega
    rw [kv] at h1 hcg1 hu1 hc1 y23
    rw [k1] at c2
    have kw0 : IntKind.i64.wrap 1 = 1 := by decide
    have kw1 : IntKind.i64.wrap (0 + 1) = 1 := by decide
    have hgr := greetedW h1 hn b hbl
    have e9 : gotR nonce l s b now = ⟨(greetR nonce b).1, (greetR nonce b).2, { greetS nonce s1 b with bad := !decide ((greetR nonce b).2 = 0) }, l⟩ := by unfold gotR; rw [if_neg (by simp [hb0, hd0]), if_pos hg0, hs1]
    rw [e9]
    obtain ⟨o, ho⟩ : ∃ x, x = (greetR nonce b).1 := ⟨_, rfl⟩
    obtain ⟨E, hE⟩ : ∃ x, x = (greetR nonce b).2 := ⟨_, rfl⟩
    obtain ⟨t, ht⟩ : ∃ x, x = greetS nonce s1 b := ⟨_, rfl⟩
    rw [← ho, ← hE, ← ht] at hgr
    rw [← ho, ← hE, ← ht]
    have hc := hgr.mono (R' := fun e w2 => e = .returned (.tuple #[S o, .int .i64 (E : Int)]) ∧ HostAt w2 hb ub nonce t ∧ UsersAt G w2 ub l ∧ Cg (fun g => G g ∨ g = hb) w w2) (by
      rintro e w2 ⟨rfl, hh, hbb⟩
      exact ⟨rfl, hh, hu1.cg (H := fun g => g = hb) (Cg.ofBut hbb rfl) (fun g hg hG => hnG (hg ▸ hG)), hcg1.trans (Cg.ofBut hbb (.inr rfl))⟩)
    have HC := Lib.hid hc
    by_cases hE0 : E = 0
    · rw [show (!decide (E = 0)) = false by simp [hE0]]
      clear hgr hE ho ht hs1 h1 hu1 hcg1 e9 h hu hg0 k1 kv kw hc
      subst hE0
      go_enter Tryz.func30, Tryz.ntmps30
      go_wp2_with (go_at_call 59; refine HC.out.mono ?_; rintro e w2 ⟨rfl, ht2, hu2, hc2⟩; obtain ⟨-, -, -, d3, -, -, -⟩ := ht2.cells; have y3 := ht2.fr 3 (by decide))
      go_ret2
      exact ⟨rfl, ht2.setBad _, hu2.cg (H := fun g => g = hb) (Cg.ofBut (But.set _ _ _) rfl) (fun g hg hG => hnG (hg ▸ hG)), hc2.trans (Cg.ofBut (But.set _ _ _) (.inr rfl))⟩
    · have kE : ((E : Int) != 0) = true := by simp; omega
      rw [show (!decide (E = 0)) = true by simp [hE0]]
      clear hgr hE ho ht hs1 h1 hu1 hcg1 e9 h hu hg0 hE0 k1 kv kw hc
      go_enter Tryz.func30, Tryz.ntmps30
      go_wp2_with (go_at_call 59; refine HC.out.mono ?_; rintro e w2 ⟨rfl, ht2, hu2, hc2⟩; obtain ⟨-, -, -, d3, -, -, -⟩ := ht2.cells; have y3 := ht2.fr 3 (by decide))
      go_ret2
      exact ⟨rfl, ht2.setBad _, hu2.cg (H := fun g => g = hb) (Cg.ofBut (But.set _ _ _) rfl) (fun g hg hG => hnG (hg ▸ hG)), hc2.trans (Cg.ofBut (But.set _ _ _) (.inr rfl))⟩
  · have kz : ¬ (s.got : Int) = 0 := by omega
    have kz2 : ((s.got : Int) + 1 == 1) = false := by simp; omega
    have hpr := provedW h1 hu1 hnG hl (by rw [hs1]; exact hul) (by rw [hs1]; exact hpl) (by rw [hs1]; exact hd0) b hbl now n1 n2
    have e9 : gotR nonce l s b now = ⟨(provR l s1 b now).out, (provR l s1 b now).err, { (provR l s1 b now).st with bad := !decide ((provR l s1 b now).err = 0) }, (provR l s1 b now).l⟩ := by unfold gotR; rw [if_neg (by simp [hb0, hd0]), if_neg hg0, hs1]
    rw [e9]
    obtain ⟨r, hr⟩ : ∃ x, x = provR l s1 b now := ⟨_, rfl⟩
    rw [← hr] at hpr
    rw [← hr]
    obtain ⟨o, E, t, l2⟩ := r
    simp only at hpr ⊢
    have hc := hpr.mono (R' := fun e w2 => e = .returned (.tuple #[S o, .int .i64 (E : Int)]) ∧ HostAt w2 hb ub nonce t ∧ UsersAt G w2 ub l2 ∧ Cg (fun g => G g ∨ g = hb) w w2) (by
      rintro e w2 ⟨rfl, hh, hu2, hbb⟩
      exact ⟨rfl, hh, hu2, hcg1.trans hbb⟩)
    have HC := Lib.hid hc
    by_cases hE0 : E = 0
    · rw [show (!decide (E = 0)) = false by simp [hE0]]
      clear hpr hr hs1 h1 hu1 hcg1 e9 h hu hg0 hc
      subst hE0
      go_enter Tryz.func30, Tryz.ntmps30
      go_wp2_with (go_at_call 60; refine HC.out.mono ?_; rintro e w2 ⟨rfl, ht2, hu2, hc2⟩; obtain ⟨-, -, -, d3, -, -, -⟩ := ht2.cells; have y3 := ht2.fr 3 (by decide))
      go_ret2
      exact ⟨rfl, ht2.setBad _, hu2.cg (H := fun g => g = hb) (Cg.ofBut (But.set _ _ _) rfl) (fun g hg hG => hnG (hg ▸ hG)), hc2.trans (Cg.ofBut (But.set _ _ _) (.inr rfl))⟩
    · have kE : ((E : Int) != 0) = true := by simp; omega
      rw [show (!decide (E = 0)) = true by simp [hE0]]
      clear hpr hr hs1 h1 hu1 hcg1 e9 h hu hg0 hE0 hc
      go_enter Tryz.func30, Tryz.ntmps30
      go_wp2_with (go_at_call 60; refine HC.out.mono ?_; rintro e w2 ⟨rfl, ht2, hu2, hc2⟩; obtain ⟨-, -, -, d3, -, -, -⟩ := ht2.cells; have y3 := ht2.fr 3 (by decide))
      go_ret2
      exact ⟨rfl, ht2.setBad _, hu2.cg (H := fun g => g = hb) (Cg.ofBut (But.set _ _ _) rfl) (fun g hg hG => hnG (hg ▸ hG)), hc2.trans (Cg.ofBut (But.set _ _ _) (.inr rfl))⟩
end Go.Proofs.YtlbdbmnkjljohaaGreat
set_option linter.unusedSimpArgs false
set_option linter.unusedVariables false
namespace Go.Proofs.YtlbdbmnkjljohaaGreat
open Go.RowKit Go.Esc
/-- The blocks that are new since B. -/
def Nw (B : Nat) (w : World) : Nat → Prop := fun g => B ≤ g ∧ g < w.heap.size
def flatU (zs : List (Bs × Bs)) : List Value := zs.flatMap fun x => [S x.1, S x.2]
theorem flatU_length (zs : List (Bs × Bs)) : (flatU zs).length = zs.length * 2 := by
  induction zs with
  | nil => rfl
  | cons x r ih => simp only [flatU, List.flatMap_cons, List.length_append, List.length_cons, List.length_nil] at ih ⊢; omega
theorem flatU_at : ∀ (zs : List (Bs × Bs)) (i : Nat) (hi : i < zs.length), ((flatU zs).drop (i * 2)).take 2 = [S (zs[i]).1, S (zs[i]).2]
  | x :: r, 0, _ => rfl
  | x :: r, i+1, hi => by
    have := flatU_at r i (by simpa using hi)
    rw [show (i + 1) * 2 = i * 2 + 1 + 1 by omega]
    simpa [flatU] using this
def mkU (zs : List (Bs × Bs)) : List UserS := zs.map fun x => ⟨x.1, x.2, 0, false, 0⟩
def goodUs (zs : List (Bs × Bs)) : Prop := (∀ x ∈ zs, userB x.1 x.2 = true) ∧ ∀ (i j : Nat) (hi : i < zs.length) (hj : j < zs.length), i < j → (zs[i]).1 ≠ (zs[j]).1
theorem posN_push (l : List UserS) (u : UserS) (k : Bs) : posN (l ++ [u]) k = match posN l k with | some i => some i | none => if u.name = k then some l.length else none := by
  unfold posN
  rw [List.findIdx?_append]
  cases h : l.findIdx? (fun u => u.name == k) with
  | some i => rfl
  | none =>
    by_cases hk : u.name = k
    · simp [hk]
    · simp [hk]
theorem posN_none {l : List UserS} {k : Bs} (h : ∀ u ∈ l, u.name ≠ k) : posN l k = none := by
  unfold posN
  rw [List.findIdx?_eq_none_iff]
  intro x hx
  simpa using h x hx
theorem mkU_succ {zs : List (Bs × Bs)} {i : Nat} (hi : i < zs.length) : mkU (zs.take (i+1)) = mkU (zs.take i) ++ [⟨(zs[i]).1, (zs[i]).2, 0, false, 0⟩] := by
  unfold mkU
  rw [List.take_succ_eq_append_getElem hi, List.map_append]; rfl
theorem mkU_new {zs : List (Bs × Bs)} (h : goodUs zs) {i : Nat} (hi : i < zs.length) : posN (mkU (zs.take i)) (zs[i]).1 = none := by
  apply posN_none
  intro u hu he
  unfold mkU at hu
  obtain ⟨x, hx, rfl⟩ := List.mem_map.1 hu
  obtain ⟨j, hj, rfl⟩ := List.mem_iff_getElem.1 hx
  simp only [List.length_take] at hj
  simp only [List.getElem_take] at he
  exact h.2 j i (by omega) hi (by omega) he
theorem UsersP.wide {G G' : Nat → Prop} {w : World} {ub mb : Nat} {bl : List Nat} {l : List UserS} (h : UsersP G w ub mb bl l) (hG : ∀ g, G g → G' g) (hd : ∀ g, G' g → g < w.heap.size) : UsersP G' w ub mb bl l :=
  ⟨h.row, h.m, h.len, h.us, hG _ h.gu, hG _ h.gm, fun i g hg => ⟨hG _ (h.gb i g hg).1, (h.gb i g hg).2⟩, h.nd, hd, h.fl⟩
theorem UsersP.push {B : Nat} {w w1 w2 : World} {ub mb : Nat} {bl : List Nat} {l : List UserS} (h : UsersP (Nw B w) w ub mb bl l) (hp : Pu w w1) {g : Nat} {u : UserS} (hr : Row w1 g 111 (userC u)) (hgn : w.heap.size ≤ g) (hB : B ≤ w.heap.size)
    (hm : MapAt Tryz.prog 9 litS w2 mb (l.length + 1) (upd (fun k => (posN l k).bind fun i => (bl[i]?).map fun g => Value.pointer (some ⟨g, 0, none⟩)) u.name (some (.pointer (some ⟨g, 0, none⟩))))) (hg : w1.grownBy w2 (some mb)) (hn : posN l u.name = none) (hf : u.fails < 3) :
    UsersP (Nw B w2) w2 ub mb (bl ++ [g]) (l ++ [u]) := by
  have s1 := hp.size
  have s2 := hg.size
  have hmb := h.dom mb h.gm
  have hub := h.dom ub h.gu
  have hne : ub ≠ mb := fun e => by
    obtain ⟨c, fr, h1, -⟩ := h.row
    obtain ⟨D, ⟨es, clock, h2, -⟩, -⟩ := h.m
    rw [e, h2] at h1; cases h1
  have keep : ∀ {k : Nat} {e : TypeId} {xs : List Value}, Row w1 k e xs → k ≠ mb → Row w2 k e xs := fun hk hn => hk.other (hg.block _ hk.lt (fun e => hn (by cases e; rfl)))
  refine ⟨keep (h.row.pu hp) hne, ?_, by simp [h.len], fun i g' x h1 h2 => ?_, ⟨h.gu.1, by have := h.gu.2; omega⟩, ⟨h.gm.1, by have := h.gm.2; omega⟩, fun i g' h1 => ?_, fun i j g' h1 h2 => ?_, fun g' hg' => hg'.2, fun i x h2 => ?_⟩
  · rw [List.length_append, List.length_singleton]
    have e : (fun k => (posN (l ++ [u]) k).bind fun i => ((bl ++ [g])[i]?).map fun g => Value.pointer (some ⟨g, 0, none⟩)) = upd (fun k => (posN l k).bind fun i => (bl[i]?).map fun g => Value.pointer (some ⟨g, 0, none⟩)) u.name (some (.pointer (some ⟨g, 0, none⟩))) := by
      funext k
      unfold upd
      rw [posN_push]
      by_cases hk : k = u.name
      · subst hk
        rw [hn, if_pos rfl]
        simp only [if_true, Option.bind_some]
        rw [← h.len]; simp
      · rw [if_neg hk]
        cases hp2 : posN l k with
        | none =>
          simp only [Option.bind_none]
          rw [if_neg (fun e => hk e.symm), hp2]; rfl
        | some i =>
          obtain ⟨hi, -⟩ := posN_some hp2
          simp only [hp2, Option.bind_some]
          rw [List.getElem?_append_left (by rw [h.len]; exact hi)]
    rw [e]; exact hm
  · by_cases hi : i < l.length
    · rw [List.getElem?_append_left (by rw [h.len]; exact hi)] at h1
      rw [List.getElem?_append_left hi] at h2
      exact keep ((h.us i g' x h1 h2).pu hp) (h.gb i g' h1).2.2
    · have hlt := (List.getElem?_eq_some_iff.1 h2).1
      obtain rfl : i = l.length := by simp at hlt; omega
      rw [← h.len] at h1
      simp at h1 h2
      subst h1; subst h2
      exact keep hr (by omega)
  · by_cases hi : i < bl.length
    · rw [List.getElem?_append_left hi] at h1
      obtain ⟨a1, a2, a3⟩ := h.gb i g' h1
      exact ⟨⟨a1.1, by have := a1.2; omega⟩, a2, a3⟩
    · have hlt := (List.getElem?_eq_some_iff.1 h1).1
      obtain rfl : i = bl.length := by simp at hlt; omega
      simp at h1
      subst h1
      have := hr.lt
      exact ⟨⟨by omega, by omega⟩, by omega, by omega⟩
  · have hnew : ∀ i, i < bl.length → bl[i]? ≠ some g := fun i hi e => by have := (h.gb i g e).1.2; omega
    by_cases hi : i < bl.length
    · rw [List.getElem?_append_left hi] at h1
      by_cases hj : j < bl.length
      · rw [List.getElem?_append_left hj] at h2
        exact h.nd i j g' h1 h2
      · have hlt := (List.getElem?_eq_some_iff.1 h2).1
        obtain rfl : j = bl.length := by simp at hlt; omega
        simp at h2
        subst h2
        exact absurd h1 (hnew i hi)
    · have hlt := (List.getElem?_eq_some_iff.1 h1).1
      obtain rfl : i = bl.length := by simp at hlt; omega
      simp at h1
      subst h1
      by_cases hj : j < bl.length
      · rw [List.getElem?_append_left hj] at h2
        exact absurd h2 (hnew j hj)
      · have hlt := (List.getElem?_eq_some_iff.1 h2).1
        simp at hlt; omega
  · by_cases hi : i < l.length
    · rw [List.getElem?_append_left hi] at h2
      exact h.fl i x h2
    · have hlt := (List.getElem?_eq_some_iff.1 h2).1
      obtain rfl : i = l.length := by simp at hlt; omega
      simp at h2
      subst h2
      exact hf
set_option maxRecDepth 100000 in
set_option maxHeartbeats 1600000 in
theorem newUsers {w : World} {a : Option Addr} {n cap : Nat} (zs : List (Bs × Bs)) (hn : n = zs.length) (h20 : n ≤ 20) (ha : zs ≠ [] → ∃ g, a = some ⟨g, 0, none⟩ ∧ Row w g 23 (flatU zs)) (hz : goodUs zs) :
    Calls Tryz.prog 28 #[.slice a n cap] w fun e w' => ∃ ub, e = .returned (.tuple #[.pointer (some ⟨ub, 0, none⟩), .int .i64 0]) ∧ UsersAt (Nw w.heap.size w') w' ub (mkU zs) ∧ Pu w w' := by
  have q1 : ¬ (20 : Int) < n := by omega
  have hmm := @run_makeMap Tryz.prog
  have hi2 : (Tryz.prog.info? 23).map (·.size) = some 2 := by kernel_rfl
  go_enter Tryz.func28, Tryz.ntmps28
  go_wp2_with fail
  have hm0 := MapAt.made (P := Tryz.prog) (kt := 9) (lit := litS) w
  have p1 := (Pu.refl w).alloc (.map #[] 0)
  have p2 := (Pu.refl (w.alloc (.map #[] 0))).alloc (.cells #[.map (some w.heap.size)] 108)
  have hu0 : UsersP (Nw w.heap.size ((w.alloc (.map #[] 0)).alloc (.cells #[.map (some w.heap.size)] 108))) ((w.alloc (.map #[] 0)).alloc (.cells #[.map (some w.heap.size)] 108)) (w.heap.size + 1) w.heap.size [] (mkU (zs.take 0)) := by
    refine ⟨Row.newAt _ _ _ _ (by simp) rfl, ?_, rfl, fun i g u h => by simp at h, ⟨by omega, by simp⟩, ⟨by omega, by simp; omega⟩, fun i g h => by simp at h, fun i j g h => by simp at h, fun g h => h.2, fun i u h => by simp [mkU] at h⟩
    exact hm0.pu p2
  have HU0 := Lib.hid hu0
  have HP0 := Lib.hid (p1.trans p2)
  clear hm0 hu0 p1 p2
  go_loopw [15, 6] (fun x _ wr => ∃ (i : Nat) (bl : List Nat), i ≤ n ∧ x = .int .i64 (i : Int) ∧ UsersP (Nw w.heap.size wr) wr (w.heap.size + 1) w.heap.size bl (mkU (zs.take i)) ∧ Pu w wr) (fun x _ _ => n - (intOf x).toNat)
  case atStart => exact ⟨0, [], Nat.zero_le _, rfl, HU0.out, HP0.out⟩
  case round =>
    clear HU0 HP0
    obtain ⟨i, bl, hi, rfl, hu, hpw⟩ := hrel
    by_cases hlt : i < n
    · have hi1 : (i : Int) < n := by omega
      have hi0 : (0 : Int) ≤ i := by omega
      have hzi : i < zs.length := by omega
      obtain ⟨g, rfl, hrow⟩ := ha (by intro e; rw [e] at hzi; simp at hzi)
      have hfa := flatU_at zs i hzi
      have hfl := flatU_length zs
      have hms := mkU_succ hzi
      have hmn := mkU_new hz hzi
      have hub := hz.1 _ (List.getElem_mem hzi)
      obtain ⟨nm, hnm⟩ : ∃ x, x = (zs[i]).1 := ⟨_, rfl⟩
      obtain ⟨sc, hsc⟩ : ∃ x, x = (zs[i]).2 := ⟨_, rfl⟩
      rw [← hnm, ← hsc] at hfa hms hub
      rw [← hnm] at hmn
      have hnl : nm.length ≤ 20 := by unfold userB at hub; simp at hub; exact (nameB_len hub.1).2
      have hsl : sc.length = 32 := by unfold userB at hub; simp at hub; exact hub.2
      have hR := fun w => rightW nm sc (by omega) (by omega) w
      rw [hub] at hR
      have hrw := hrow.pu hpw
      have hk := keyS (P := Tryz.prog) (kt := 9) Tryz.underlying9
      have HR := Lib.hid hR
      have HU := Lib.hid hu
      have HFA := Lib.hid hfa
      have HMS := Lib.hid hms
      have HMN := Lib.hid hmn
      have HFL := Lib.hid hfl
      have HN := Lib.hid hn
      clear hR hu hfa hms hmn hfl hn hub hnm hsc hrow
      go_wp2_with (first
        | (refine wpList_load_part rfl 23 (.tmp 17) rfl g (i*2) 2 (by rfl) hrw Tryz.underlying23 rfl hi2 (by rw [HFL.out]; omega) ?_; rw [HFA.out])
        | (refine wpList_store_part rfl 23 (.tmp 6) (.tmp 18) rfl wr.heap.size 0 [S nm, S sc] (by rfl) (by rfl) (Row.newAt wr wr.heap.size _ _ rfl rfl) hi2 (by simp) (by simp [Value.oneCell']) ?_; intro w2 hr2 hch2))
      rw [splice_all (by rfl)] at hr2
      have hp2 : Pu wr w2 := hch2.below ((Pu.refl wr).alloc _) (Nat.le_refl _)
      clear hch2 hrw
      have hu2 := HU.out.pu hp2
      have hl2 := fun w' (hp : Pu w2 w') => (hr2.pu hp).load (P := Tryz.prog) 23 0 2 Tryz.underlying23 rfl hi2 (by simp)
      have hlk := fun w' (hp : Pu w2 w') => (hu2.m.pu hp).get hk (t := 106) (e := 109) Tryz.underlying106 (zeroPtrU w') nm (by omega)
      have hur := fun w' (hp : Pu w2 w') => (hu2.row.pu hp).cell 0 (by simp)
      have hcr := fun w' (hp : Pu w2 w') => (hr2.pu hp).cell 0 (by simp)
      have hcs := fun w' (hp : Pu w2 w') => (hr2.pu hp).cell 1 (by simp)
      simp only [HMN.out, Option.bind_none, Option.getD_none] at hlk
      simp at hur hcr hcs
      have HL2 := Lib.hid hl2
      have HLK := Lib.hid hlk
      have HUR := Lib.hid hur
      have HCR := Lib.hid hcr
      have HCS := Lib.hid hcs
      have HU2 := Lib.hid hu2
      clear hl2 hlk hur hcr hcs hu2 hr2
      apply region_pu (Φs := (Is _ :: Is _ :: Is _ :: Is _ :: Is _ :: Is _ :: Is _ :: Is _ :: Is _ :: Is _ :: Is _ :: Is _ :: Is _ :: [])) (hm := by kernel_rfl) (hE := by kernel_rfl) (hD := by kernel_rfl) (hsize := by kernel_rfl)
      case hop =>
        refine ⟨?_, ?_, ?_, ?_, ?_, ?_, ?_, ?_, ?_, ?_, ?_, ?_, ?_, trivial⟩
        · intro a' w' hs hp he
          have e6 := hs 6 (by kernel_rfl)
          try simp [Is, Region.binds] at he
          have hl := HL2.out _ hp; exact op_load rfl rfl 23 (.tmp 6) rfl ⟨wr.heap.size, 0, none⟩ (by first | exact e6 | (simpa [Act.eval] using e6)) hl rfl
        · intro a' w' hs hp he
          try simp [Is, Region.binds] at he
          exact op_callP (HR.out _) rfl (wanted_none rfl) (by first | (go_simp; done) | (go_simp; rfl)) (fun _ => rfl)
        · intro a' w' hs hp he
          try simp [Is, Region.binds] at he
          exact op_val rfl (wanted_none rfl) (by first | (go_simp; done) | (go_simp; rfl) | (simp [execOp, Act.eval, go_sem, *]; done) | (simp [execOp, Act.eval, go_sem, *]; rfl)) rfl (Pu.refl _)
        · intro a' w' hs hp he
          try simp [Is, Region.binds] at he
          exact op_val rfl (wanted_none rfl) (by first | (go_simp; done) | (go_simp; rfl) | (simp [execOp, Act.eval, go_sem, *]; done) | (simp [execOp, Act.eval, go_sem, *]; rfl)) rfl (Pu.refl _)
        · intro a' w' hs hp he
          have e4 := hs 4 (by kernel_rfl)
          try simp [Is, Region.binds] at he
          first | exact op_skip rfl ((wanted_some rfl rfl (by first | (simp [he]; done) | (simp [he]; rfl))).trans rfl) rfl | exact op_val rfl ((wanted_some rfl rfl (by first | (simp [he]; done) | (simp [he]; rfl))).trans rfl) (by first | (go_simp; done) | (go_simp; rfl) | (simp [execOp, Act.eval, go_sem, *]; done) | (simp [execOp, Act.eval, go_sem, *]; rfl)) rfl (Pu.refl _)
        · intro a' w' hs hp he
          try simp [Is, Region.binds] at he
          first | exact op_skip rfl ((wanted_some rfl rfl (by first | (simp [he]; done) | (simp [he]; rfl))).trans rfl) rfl | exact op_val rfl ((wanted_some rfl rfl (by first | (simp [he]; done) | (simp [he]; rfl))).trans rfl) (by first | (go_simp; done) | (go_simp; rfl) | (simp [execOp, Act.eval, go_sem, *]; done) | (simp [execOp, Act.eval, go_sem, *]; rfl)) rfl (Pu.refl _)
        · intro a' w' hs hp he
          try simp [Is, Region.binds] at he
          first | exact op_skip rfl ((wanted_some rfl rfl (by first | (simp [he]; done) | (simp [he]; rfl))).trans rfl) rfl | exact op_val rfl ((wanted_some rfl rfl (by first | (simp [he]; done) | (simp [he]; rfl))).trans rfl) (by first | (go_simp; done) | (go_simp; rfl) | (simp [execOp, Act.eval, go_sem, *]; done) | (simp [execOp, Act.eval, go_sem, *]; rfl)) rfl (Pu.refl _)
        · intro a' w' hs hp he
          try simp [Is, Region.binds] at he
          have hc := HUR.out _ hp; exact op_val rfl ((wanted_some rfl rfl (by first | (simp [he]; done) | (simp [he]; rfl))).trans rfl) (by first | (go_simp; done) | (go_simp; rfl)) rfl (Pu.refl _)
        · intro a' w' hs hp he
          have e6 := hs 6 (by kernel_rfl)
          try simp [Is, Region.binds] at he
          first | exact op_skip rfl ((wanted_some rfl rfl (by first | (simp [he]; done) | (simp [he]; rfl))).trans rfl) rfl | exact op_val rfl ((wanted_some rfl rfl (by first | (simp [he]; done) | (simp [he]; rfl))).trans rfl) (by first | (go_simp; done) | (go_simp; rfl) | (simp [execOp, Act.eval, go_sem, *]; done) | (simp [execOp, Act.eval, go_sem, *]; rfl)) rfl (Pu.refl _)
        · intro a' w' hs hp he
          try simp [Is, Region.binds] at he
          have hc := HCR.out _ hp; exact op_val rfl ((wanted_some rfl rfl (by first | (simp [he]; done) | (simp [he]; rfl))).trans rfl) (by first | (go_simp; done) | (go_simp; rfl)) rfl (Pu.refl _)
        · intro a' w' hs hp he
          try simp [Is, Region.binds] at he
          have hlk := HLK.out _ hp; exact op_val rfl ((wanted_some rfl rfl (by first | (simp [he]; done) | (simp [he]; rfl))).trans rfl) (by first | (go_simp; done) | (go_simp; rfl)) rfl (Pu.refl _)
        · intro a' w' hs hp he
          try simp [Is, Region.binds] at he
          first | exact op_skip rfl ((wanted_some rfl rfl (by first | (simp [he]; done) | (simp [he]; rfl))).trans rfl) rfl | exact op_val rfl ((wanted_some rfl rfl (by first | (simp [he]; done) | (simp [he]; rfl))).trans rfl) (by first | (go_simp; done) | (go_simp; rfl) | (simp [execOp, Act.eval, go_sem, *]; done) | (simp [execOp, Act.eval, go_sem, *]; rfl)) rfl (Pu.refl _)
        · intro a' w' hs hp he
          try simp [Is, Region.binds] at he
          exact op_val rfl (wanted_none rfl) (by first | (go_simp; done) | (go_simp; rfl) | (simp [execOp, Act.eval, go_sem, *]; done) | (simp [execOp, Act.eval, go_sem, *]; rfl)) rfl (Pu.refl _)
      case hend =>
        intro a' w' hdef hsz hs hp hall
        obtain ⟨r0, r1, r2, r3, r4, r5, r6, r7, r8, r9, r10, r11, r12, -⟩ := hall
        have hA := agree_done (agree_step (agree_step (agree_step (agree_step (agree_step (agree_step (agree_step (agree_step (agree_step (agree_step (agree_step (agree_step (agree_step (agree_init [19, 20, 21, 22, 23, 24, 25, 26, 27, 28, 29, 30, 31] hsz hs (by kernel_rfl)) r0) r1) r2) r3) r4) r5) r6) r7) r8) r9) r10) r11) r12)
        have ha := act_of hA hdef
        rw [ha]
        clear ha hA hs hsz hdef r0 r1 r2 r3 r4 r5 r6 r7 r8 r9 r10 r11 r12 
        (try simp only [List.setIfInBounds_toArray])
        (try dsimp only [List.set_cons_zero, List.set_cons_succ])
        (try simp only [Exit.then])
        rename World => w3
        have hp3 := hp
        clear hp
        have hcn := fun w => clone nm (by omega) w
        have hcc := fun w => clone sc (by omega) w
        have HCN := Lib.hid hcn
        have HCC := Lib.hid hcc
        clear hcn hcc
        go_wp2_with fail
        apply region_last (n := 12) (hn := by kernel_rfl) (hlast := rfl) (hU := by kernel_rfl) (Φs := (Is _ :: Is _ :: Is _ :: Is _ :: Is _ :: Is _ :: Is _ :: Is _ :: Is _ :: Is _ :: Is _ :: IsPtrB w3.heap.size 111 [S sc, .int .i64 0, .bool false, .int .i64 0] :: [])) (hm := by kernel_rfl) (hE := by kernel_rfl) (hD := by kernel_rfl) (hsize := by kernel_rfl)
        case hop =>
          refine ⟨?_, ?_, ?_, ?_, ?_, ?_, ?_, ?_, ?_, ?_, ?_, ?_, trivial⟩
          · intro a' w' hs hp he
            have e4 := hs 4 (by kernel_rfl)
            try simp [Is, Region.binds] at he
            exact op_val rfl (wanted_none rfl) (by first | (go_simp; done) | (go_simp; rfl) | (simp [execOp, Act.eval, go_sem, *]; done) | (simp [execOp, Act.eval, go_sem, *]; rfl)) rfl (Pu.refl _)
          · intro a' w' hs hp he
            try simp [Is, Region.binds] at he
            exact op_val rfl (wanted_none rfl) (by first | (go_simp; done) | (go_simp; rfl) | (simp [execOp, Act.eval, go_sem, *]; done) | (simp [execOp, Act.eval, go_sem, *]; rfl)) rfl (Pu.refl _)
          · intro a' w' hs hp he
            try simp [Is, Region.binds] at he
            exact op_val rfl (wanted_none rfl) (by first | (go_simp; done) | (go_simp; rfl) | (simp [execOp, Act.eval, go_sem, *]; done) | (simp [execOp, Act.eval, go_sem, *]; rfl)) rfl (Pu.refl _)
          · intro a' w' hs hp he
            try simp [Is, Region.binds] at he
            have hc := HUR.out _ (hp3.trans hp); exact op_val rfl (wanted_none rfl) (by first | (go_simp; done) | (go_simp; rfl)) rfl (Pu.refl _)
          · intro a' w' hs hp he
            have e6 := hs 6 (by kernel_rfl)
            try simp [Is, Region.binds] at he
            exact op_val rfl (wanted_none rfl) (by first | (go_simp; done) | (go_simp; rfl) | (simp [execOp, Act.eval, go_sem, *]; done) | (simp [execOp, Act.eval, go_sem, *]; rfl)) rfl (Pu.refl _)
          · intro a' w' hs hp he
            try simp [Is, Region.binds] at he
            have hc := HCR.out _ (hp3.trans hp); exact op_val rfl (wanted_none rfl) (by first | (go_simp; done) | (go_simp; rfl)) rfl (Pu.refl _)
          · intro a' w' hs hp he
            try simp [Is, Region.binds] at he
            exact op_callP (HCN.out _) rfl (wanted_none rfl) (by first | (go_simp; done) | (go_simp; rfl)) (fun _ => rfl)
          · intro a' w' hs hp he
            have e6 := hs 6 (by kernel_rfl)
            try simp [Is, Region.binds] at he
            exact op_val rfl (wanted_none rfl) (by first | (go_simp; done) | (go_simp; rfl) | (simp [execOp, Act.eval, go_sem, *]; done) | (simp [execOp, Act.eval, go_sem, *]; rfl)) rfl (Pu.refl _)
          · intro a' w' hs hp he
            try simp [Is, Region.binds] at he
            have hc := HCS.out _ (hp3.trans hp); exact op_val rfl (wanted_none rfl) (by first | (go_simp; done) | (go_simp; rfl)) rfl (Pu.refl _)
          · intro a' w' hs hp he
            try simp [Is, Region.binds] at he
            exact op_callP (HCC.out _) rfl (wanted_none rfl) (by first | (go_simp; done) | (go_simp; rfl)) (fun _ => rfl)
          · intro a' w' hs hp he
            try simp [Is, Region.binds] at he
            exact op_val rfl (wanted_none rfl) (by first | (go_simp; done) | (go_simp; rfl) | (simp [execOp, Act.eval, go_sem, *]; done) | (simp [execOp, Act.eval, go_sem, *]; rfl)) rfl (Pu.refl _)
          · intro a' w' hs hp he
            try simp [Is, Region.binds] at he
            refine op_val rfl (wanted_none rfl) (by go_simp; exact ⟨rfl, rfl⟩) ?_ ((Pu.refl _).alloc _); exact ⟨_, rfl, Row.newAt _ _ _ _ rfl rfl, hp.size⟩
        case hend =>
          intro a' w' hdef hsz hs hp hall
          obtain ⟨r0, r1, r2, r3, r4, r5, r6, r7, r8, r9, r10, r11, -⟩ := hall
          obtain ⟨g11, rv11, row11⟩ := r11
          have hA := agree_done (agree_step (agree_step (agree_step (agree_step (agree_step (agree_step (agree_step (agree_step (agree_step (agree_step (agree_step (agree_step (agree_init [32, 33, 34, 35, 36, 37, 38, 39, 40, 41, 42, 43] hsz hs (by kernel_rfl)) r0) r1) r2) r3) r4) r5) r6) r7) r8) r9) r10) rv11)
          have ha := act_of hA hdef
          rw [ha]
          clear ha hA hs hsz hdef r0 r1 r2 r3 r4 r5 r6 r7 r8 r9 r10 rv11
          (try simp only [List.setIfInBounds_toArray])
          (try dsimp only [List.set_cons_zero, List.set_cons_succ])
          (try simp only [Exit.then])
          obtain ⟨w5, hrun, hm5, hg5⟩ := ((HU2.out.pu hp3).pu hp).m.set hk Tryz.underlying106 (by unfold maxLen; rw [mkU]; simp; omega) nm (by omega) (.pointer (some ⟨g11, 0, none⟩)); rw [HMN.out] at hm5; change (Instr.mapUpdate 106 (.map (some w.heap.size)) (.string (bs nm)) (.pointer (some ⟨g11, 0, none⟩))).run Tryz.prog w' = .ok () w5 at hrun
          refine op_done rfl (wanted_none rfl) (by first | (go_simp; done) | (go_simp; rfl)) ?_
          (try simp only [Exit.inBlock, Exit.then])
          simp only [Option.bind_none, Option.isSome_none, Bool.false_eq_true, if_false] at hm5
          have hs3 := hp3.size
          have hs2 := hp2.size
          have hnew := UsersP.push (B := w.heap.size) ((HU2.out.pu hp3).wide (fun g hg => ⟨hg.1, by have := hg.2; omega⟩) (fun g hg => hg.2)) hp (u := ⟨nm, sc, 0, false, 0⟩) row11.1 row11.2 (by have := hpw.size; omega) hm5 hg5 HMN.out (by show 0 < 3; decide)
          have hpn : Pu w w5 := Below.grown (((hpw.trans hp2).trans hp3).trans hp) hg5 (by have := hpw.size; have := hp.size; omega) (fun j hj => by cases hj; exact Nat.le_refl _)
          have HNEW := Lib.hid hnew
          have HPN := Lib.hid hpn
          clear hnew hpn hm5 hg5 hrun hp row11
          go_wp2_with fail
          go_roundw
          case rel =>
            have R := HNEW.out
            rw [← HMS.out] at R
            exact ⟨i + 1, _, by omega, by go_num, R, HPN.out⟩
          case measure => simp [intOf]; omega
    · obtain rfl : i = n := by omega
      have hlt' : decide ((i : Int) < i) = false := by simp
      go_wp2_with fail
      go_ret2
      refine ⟨_, rfl, ⟨w.heap.size, bl, ?_⟩, hpw⟩
      rw [hn, List.take_length] at hu
      exact hu
end Go.Proofs.YtlbdbmnkjljohaaGreat
namespace Go.Proofs.YtlbdbmnkjljohaaGreat
open Go.RowKit Go.Esc
theorem op_loadG {P : Program} {ops : Array Oper} {Q : Exit → Act → World → Prop} {Φ : Value → World → Prop} {i : Nat} {o : Oper} {a' : Act} {w' : World} {v : Value} (ho : ops[i]? = some o) (hw : Region.wanted o (yielded ops a'.tmps) = true) (ty : TypeId) (x : Operand) (hop : o.op = .load ty x)
    (ad : Addr) (hx : a'.eval x = .pointer (some ad)) (hl : (loadVar ty ad).run P w' = .ok v w') (hφ : Φ (if o.dst.isSome then v else undef) w') :
    wpOp P ops Q i (fun a'' w'' => ∃ v, a'' = a'.put o.dst v ∧ Φ (if o.dst.isSome then v else undef) w'' ∧ Pu w' w'') a' w' :=
  op_val ho hw (by unfold execOp; simp only [hop, hx, Instr.loadAt, Instr.sureAddr, Sem.run_bind, Sem.run_pure, Result.andThen_ok, hl]) hφ (Pu.refl _)
structure Trio (G : Nat → Prop) (w0 w : World) (ub gb hb : Nat) (nh : Bs) (l : List UserS) (s : HSt) (name secret ng papers : Bs) (step : Nat) : Prop where
  u : UsersAt G w ub l
  h : HostAt w hb ub nh s
  g : GuestAt w gb name secret ng papers step
  hn : ¬ G hb
  gn : ¬ G gb
  ne : gb ≠ hb
  lo : ∀ x, G x → w0.heap.size ≤ x
  hl : w0.heap.size ≤ hb
  gl : w0.heap.size ≤ gb
  since : Pu w0 w
section
variable {G : Nat → Prop} {w0 w : World} {ub gb hb : Nat} {nh : Bs} {l : List UserS} {s : HSt} {name secret ng papers : Bs} {step : Nat}
theorem Trio.pu (t : Trio G w0 w ub gb hb nh l s name secret ng papers step) {w' : World} (hp : Pu w w') : Trio G w0 w' ub gb hb nh l s name secret ng papers step :=
  ⟨t.u.pu hp, t.h.pu hp, t.g.pu hp, t.hn, t.gn, t.ne, t.lo, t.hl, t.gl, t.since.trans hp⟩
theorem Trio.start {w1 w2 w3 : World} (hu : UsersAt G w1 ub l) (h01 : Pu w0 w1) (lo : ∀ x, G x → w0.heap.size ≤ x) (hg : GuestAt w2 gb name secret ng papers step) (hgb : w1.heap.size ≤ gb) (h12 : Pu w1 w2) (hh : HostAt w3 hb ub nh s) (hhb : w2.heap.size ≤ hb) (h23 : Pu w2 w3) : Trio G w0 w3 ub gb hb nh l s name secret ng papers step := by
  have s1 := h01.size
  have s2 := h12.size
  have hlt : gb < w2.heap.size := Row.lt (xs := guestC name secret ng papers step) hg
  exact ⟨(hu.pu h12).pu h23, hh, hg.pu h23, fun h => by have := hu.dom _ h; omega, fun h => by have := hu.dom _ h; omega, by omega, lo, by omega, by omega, (h01.trans h12).trans h23⟩
theorem trioGot (t : Trio G w0 w ub gb hb nh l s name secret ng papers step) (hn : nh.length = 16) (hl : ∀ u ∈ l, u.secret.length = 32) (hul : s.user.length ≤ 1000000) (hpl : s.papers.length ≤ 10000) (hgo : s.got ≤ 1000) (b : Bs) (hbl : b.length ≤ 10000) (now : Int) (n1 : -9223372036854775808 ≤ now) (n2 : now ≤ 9223372036854775807) :
    Calls Tryz.prog 30 #[.pointer (some ⟨hb, 0, none⟩), S b, .int .i64 now] w fun e w' => e = .returned (.tuple #[S (gotR nh l s b now).out, .int .i64 ((gotR nh l s b now).err : Int)]) ∧ Trio G w0 w' ub gb hb nh (gotR nh l s b now).l (gotR nh l s b now).st name secret ng papers step := by
  refine (gotW t.h t.u t.hn hn hl hul hpl hgo b hbl now n1 n2).mono ?_
  rintro e w' ⟨rfl, h1, h2, h3⟩
  refine ⟨rfl, h2, h1, h3.row (xs := guestC name secret ng papers step) t.g ?_, t.hn, t.gn, t.ne, t.lo, t.hl, t.gl, Cg.below t.since h3 ?_ t.since.size⟩
  · rintro (h | h)
    · exact t.gn h
    · exact t.ne h
  · rintro g (h | h)
    · exact t.lo g h
    · rw [h]; exact t.hl
theorem Trio.guest (t : Trio G w0 w ub gb hb nh l s name secret ng papers step) {w' : World} {papers' : Bs} {step' : Nat} (hg : GuestAt w' gb name secret ng papers' step') (hb' : But gb w w') : Trio G w0 w' ub gb hb nh l s name secret ng papers' step' :=
  ⟨t.u.cg (H := fun g => g = gb) (Cg.ofBut hb' rfl) (fun g hg hG => t.gn (hg ▸ hG)), hb'.row (xs := hostC ub nh s) t.h (fun e => t.ne e.symm), hg, t.hn, t.gn, t.ne, t.lo, t.hl, t.gl, But.below t.since hb' t.gl t.since.size⟩
theorem trioChal (t : Trio G w0 w ub gb hb nh l s name secret ng papers step) (hs : step ≤ 100) (hok : guestOk name secret ng) (b : Bs) (hb1 : b.length ≤ 10000) :
    Calls Tryz.prog 18 #[.pointer (some ⟨gb, 0, none⟩), S b] w fun e w' => e = .returned (.tuple #[S (chalS secret (helloL name ng) papers step b).1, .int .i64 ((chalS secret (helloL name ng) papers step b).2.1 : Int)]) ∧
      Trio G w0 w' ub gb hb nh l s name secret ng (chalS secret (helloL name ng) papers step b).2.2.1 (chalS secret (helloL name ng) papers step b).2.2.2 := by
  refine (challengeW t.g hs hok b hb1).mono ?_
  rintro e w' ⟨rfl, h1, h2⟩
  exact ⟨rfl, t.guest h1 h2⟩
theorem trioFin (t : Trio G w0 w ub gb hb nh l s name secret ng papers step) (hs : step ≤ 100) (hok : guestOk name secret ng) (hpl : papers.length ≤ 10000) (b : Bs) (hb1 : b.length ≤ 10000) :
    Calls Tryz.prog 22 #[.pointer (some ⟨gb, 0, none⟩), S b] w fun e w' => e = .returned (.tuple #[.agg (keysO secret papers (finS secret papers step b).1).toArray, .int .i64 ((finS secret papers step b).2.1 : Int)]) ∧
      Trio G w0 w' ub gb hb nh l s name secret ng papers (finS secret papers step b).2.2 := by
  refine (finishG t.g hs hok hpl b hb1).mono ?_
  rintro e w' ⟨rfl, h1, h2⟩
  exact ⟨rfl, t.guest h1 h2⟩
end
/-- A host that has greeted; one that is done. -/
def hst1 (name papers : Bs) : HSt := ⟨1, false, name, papers, false, [], []⟩
def hst2 (name papers sec : Bs) : HSt := ⟨2, false, name, papers, true, upL sec papers, downL sec papers⟩
theorem got_hello (nh : Bs) (l : List UserS) (name ng : Bs) (now : Int) (h : helloOk name ng) : gotR nh l hst0 (helloL name ng) now = ⟨chalL nh, 0, hst1 name (helloL name ng ++ chalL nh), l⟩ := by
  have hg := getHello_put h
  unfold gotR
  rw [if_neg (by simp [hst0]), if_pos (show hst0.got = 0 from rfl)]
  unfold greetR greetS
  rw [hg]
  rfl
theorem proofL_length (sec papers : Bs) : (proofL sec papers).length = 32 := macL_length _ _
theorem finishL_length (sec papers : Bs) : (finishL sec papers).length = 32 := macL_length _ _
theorem fix3 (x : Bs) (h : x.length = 32) : fixR 3 32 (3 :: x) = some x := fixR_put 3 32 x (by decide) h
theorem fix4 (x : Bs) (h : x.length = 32) : fixR 4 32 (4 :: x) = some x := fixR_put 4 32 x (by decide) h
theorem fix2 (x : Bs) (h : x.length = 16) : fixR 2 16 (2 :: x) = some x := fixR_put 2 16 x (by decide) h
theorem got_proof (nh : Bs) (l : List UserS) (name papers sec : Bs) (now : Int) (h1 : secV l name = some sec) (h2 : lockV l name now = false) : gotR nh l (hst1 name papers) (3 :: proofL sec papers) now = ⟨4 :: finishL sec papers, 0, hst2 name papers sec, modN l name goodS⟩ := by
  have hp : provR l { hst1 name papers with got := (hst1 name papers).got + 1 } (3 :: proofL sec papers) now = ⟨4 :: finishL sec papers, 0, hst2 name papers sec, modN l name goodS⟩ := by
    unfold provR
    rw [fix3 _ (proofL_length _ _)]
    simp only [hst1]
    rw [h1]
    simp only
    rw [if_neg (by rw [h2]; simp), if_pos trivial]
    rfl
  unfold gotR
  rw [if_neg (by simp [hst1]), if_neg (by simp [hst1]), hp]
  rfl
theorem chal_ok (secret hello nh : Bs) (h : nh.length = 16) : chalS secret hello [] 0 (chalL nh) = (3 :: proofL secret (hello ++ chalL nh), 0, hello ++ chalL nh, 1) := by
  unfold chalS
  rw [if_neg (by simp), show chalL nh = 2 :: nh from rfl, fix2 nh h]
theorem fin_ok (secret papers : Bs) : finS secret papers 1 (4 :: finishL secret papers) = (true, 0, 2) := by
  unfold finS
  rw [if_neg (by simp), fix4 _ (finishL_length _ _)]
  simp only
  rw [if_pos trivial]
theorem one_pos (name sec : Bs) : posN (mkU [(name, sec)]) name = some 0 := by simp [posN, mkU]
theorem one_sec (name sec : Bs) : secV (mkU [(name, sec)]) name = some sec := by unfold secV; rw [one_pos]; rfl
theorem one_lock (name sec : Bs) (now : Int) : lockV (mkU [(name, sec)]) name now = false := by unfold lockV; rw [one_pos]; rfl
theorem one_good (name sec : Bs) : modN (mkU [(name, sec)]) name goodS = mkU [(name, sec)] := by unfold modN; rw [one_pos]; rfl
theorem mkU_len {zs : List (Bs × Bs)} (h : goodUs zs) : ∀ u ∈ mkU zs, u.secret.length = 32 := by
  intro u hu
  obtain ⟨x, hx, rfl⟩ := List.mem_map.1 hu
  have := h.1 x hx
  unfold userB at this
  simp at this
  exact this.2
theorem modN_len {l : List UserS} {n : Bs} {f : UserS → UserS} (hf : ∀ u, (f u).secret = u.secret) (h : ∀ u ∈ l, u.secret.length = 32) : ∀ u ∈ modN l n f, u.secret.length = 32 := by
  unfold modN modU
  split
  · next i _ =>
    split
    · next x hx =>
      intro u hu
      rcases List.mem_or_eq_of_mem_set hu with h1 | h1
      · exact h u h1
      · subst h1
        rw [hf]
        exact h x (List.mem_of_getElem? hx)
    · exact h
  · exact h
theorem one_ok {name sec : Bs} (h : userB name sec = true) : goodUs [(name, sec)] := ⟨fun x hx => by simp at hx; subst hx; exact h, fun i j hi hj hij => by simp at hi hj; omega⟩
/-- One user is there. -/
theorem newOne (name sec : Bs) (h : userB name sec = true) (w : World) :
    Calls Tryz.prog 28 #[.slice (some ⟨w.heap.size, 0, none⟩) 1 1] (w.alloc (.cells #[S name, S sec] 23)) fun e w' => ∃ (ub : Nat) (G : Nat → Prop), e = .returned (.tuple #[.pointer (some ⟨ub, 0, none⟩), .int .i64 0]) ∧ UsersAt G w' ub (mkU [(name, sec)]) ∧ (∀ x, G x → w.heap.size ≤ x) ∧ Pu w w' := by
  have hp0 := (Pu.refl w).alloc (.cells #[S name, S sec] 23)
  refine (newUsers (w := w.alloc (.cells #[S name, S sec] 23)) (a := some ⟨w.heap.size, 0, none⟩) (n := 1) (cap := 1) [(name, sec)] rfl (by decide) (fun _ => ⟨w.heap.size, rfl, Row.newAt _ _ _ _ rfl rfl⟩) (one_ok h)).mono ?_
  rintro e w' ⟨ub, rfl, hu, hp⟩
  refine ⟨ub, _, rfl, hu, fun x hx => ?_, hp0.trans hp⟩
  have := hp0.size
  have := hx.1
  omega
end Go.Proofs.YtlbdbmnkjljohaaGreat
