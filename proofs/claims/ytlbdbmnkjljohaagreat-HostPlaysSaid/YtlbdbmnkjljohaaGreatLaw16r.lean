/- Chapter 16: HostPlays: users and their book side by side; a host and the document's. -/
import Derived.Test.YtlbdbmnkjljohaaGreatHostR
import Derived.Test.YtlbdbmnkjljohaaGreatBooks
import Derived.Test.YtlbdbmnkjljohaaGreatOps
namespace Go.Proofs.YtlbdbmnkjljohaaGreat
open Go.RowKit Go.Esc
/-- What a host's state comes to. -/
structure SInv (s : HSt) : Prop where
  ok : HOk s
  ul : s.user.length ≤ 1000
  pl : s.papers.length ≤ 1000
  got : s.got ≤ 2
theorem SInv.zero : SInv hst0 := ⟨fun _ _ => Nat.zero_le _, by decide, by decide, by decide⟩
theorem provR_st (l : List UserS) (s : HSt) (b : Bs) (now : Int) (hd : s.done = false) : (provR l s b now).st.user = s.user ∧ (provR l s b now).st.papers = s.papers ∧ (provR l s b now).st.got = s.got ∧ ((provR l s b now).err = 0 → (provR l s b now).st.done = true) := by
  unfold provR
  split
  · exact ⟨rfl, rfl, rfl, fun h => by cases h⟩
  · split
    · exact ⟨rfl, rfl, rfl, fun h => by cases h⟩
    · split
      · exact ⟨rfl, rfl, rfl, fun h => by cases h⟩
      · split
        · exact ⟨rfl, rfl, rfl, fun _ => rfl⟩
        · exact ⟨rfl, rfl, rfl, fun h => by cases h⟩
theorem modN_keep {P : List UserS → Prop} {l : List UserS} {n : Bs} {f : UserS → UserS} (h0 : P l) (h : ∀ i (hi : i < l.length), P (l.set i (f (l[i])))) : P (modN l n f) := by
  cases hp : posN l n with
  | none => rw [modN_none hp]; exact h0
  | some i =>
    obtain ⟨hi, -⟩ := posN_some hp
    rw [modN_at hp hi]
    exact h i hi
theorem failS_ns (now : Int) (u : UserS) : (failS now u).name = u.name ∧ (failS now u).secret = u.secret := by unfold failS; split <;> exact ⟨rfl, rfl⟩
theorem gotR_l (nb : Bs) (l : List UserS) (s : HSt) (b : Bs) (now : Int) : nsL (gotR nb l s b now).l = nsL l ∧ ((∀ u ∈ l, u.secret.length = 32) → ∀ u ∈ (gotR nb l s b now).l, u.secret.length = 32) := by
  have hm : ∀ (n : Bs) (f : UserS → UserS), (∀ u, (f u).name = u.name ∧ (f u).secret = u.secret) → nsL (modN l n f) = nsL l ∧ ((∀ u ∈ l, u.secret.length = 32) → ∀ u ∈ modN l n f, u.secret.length = 32) := fun n f hf =>
    ⟨modN_keep (P := fun l' => nsL l' = nsL l) rfl (fun i hi => nsL_set hi (hf _).1 (hf _).2), fun h => modN_len (fun u => (hf u).2) h⟩
  unfold gotR
  split
  · exact ⟨rfl, fun h => h⟩
  · split
    · exact ⟨rfl, fun h => h⟩
    · show nsL (provR l _ b now).l = nsL l ∧ _
      unfold provR
      split
      · exact ⟨rfl, fun h => h⟩
      · split
        · exact ⟨rfl, fun h => h⟩
        · split
          · exact ⟨rfl, fun h => h⟩
          · split
            · exact hm _ _ (fun u => ⟨rfl, rfl⟩)
            · exact hm _ _ (failS_ns now)
theorem gotR_inv {nb : Bs} {l : List UserS} {s : HSt} {b : Bs} {now : Int} (h : SInv s) (hb : b.length ≤ 600) (hn : nb.length = 16) : SInv (gotR nb l s b now).st := by
  unfold gotR
  split
  · exact h
  · next hov =>
    have hbd : s.bad = false := by cases hb : s.bad with | false => rfl | true => exact absurd (.inl hb) hov
    have hdn : s.done = false := by cases hb : s.done with | false => rfl | true => exact absurd (.inr hb) hov
    have hg := h.ok hbd hdn
    split
    · next hg0 =>
      unfold greetS
      cases hgh : getHello b with
      | none => exact ⟨fun _ _ => by show s.got + 1 ≤ 1; omega, h.ul, h.pl, by show s.got + 1 ≤ 2; omega⟩
      | some un =>
        obtain ⟨u, n⟩ := un
        obtain ⟨⟨_, _, hu⟩, -⟩ := getHello_some hgh
        refine ⟨fun _ _ => by show s.got + 1 ≤ 1; omega, by show u.length ≤ 1000; omega, ?_, by show s.got + 1 ≤ 2; omega⟩
        show (b ++ chalL nb).length ≤ 1000
        simp [chalL]; omega
    · obtain ⟨p1, p2, p3, p4⟩ := provR_st l { s with got := s.got + 1 } b now hdn
      refine ⟨fun hbad hdone => ?_, ?_, ?_, ?_⟩
      · simp at hbad
        have := p4 hbad
        rw [this] at hdone
        cases hdone
      · show (provR l { s with got := s.got + 1 } b now).st.user.length ≤ 1000
        rw [p1]; exact h.ul
      · show (provR l { s with got := s.got + 1 } b now).st.papers.length ≤ 1000
        rw [p2]; exact h.pl
      · show (provR l { s with got := s.got + 1 } b now).st.got ≤ 2
        rw [p3]; show s.got + 1 ≤ 2; omega
/-- Users and their book. -/
structure UB (w0 w : World) (N : Nat) (G : Nat → Prop) (ub bb : Nat) (x : BI) (g : Nat) (zs : List (Bs × Bs)) (lu lb : List UserS) : Prop where
  u : UsersAt G w ub lu
  k : BookAt w bb x lb
  row : zs ≠ [] → Row w g 23 (flatU zs)
  ns : nsL lb = zs
  lenu : ∀ y ∈ lu, y.secret.length = 32
  lenb : ∀ y ∈ lb, y.secret.length = 32
  gl : ∀ b, G b → w0.heap.size ≤ b ∧ b < N
  xg : ∀ b, x.G b → N ≤ b
  bn : N ≤ bb
  ln : zs ≠ [] → N ≤ x.gL
  gn : zs ≠ [] → ¬ G g ∧ g < N
  w0n : w0.heap.size ≤ N
  nn : N ≤ w.heap.size
  since : Pu w0 w
section
variable {w0 w w' : World} {N : Nat} {G : Nat → Prop} {ub bb : Nat} {x : BI} {g : Nat} {zs : List (Bs × Bs)} {lu lb : List UserS}
theorem UB.pu (h : UB w0 w N G ub bb x g zs lu lb) (hp : Pu w w') : UB w0 w' N G ub bb x g zs lu lb :=
  ⟨h.u.pu hp, h.k.pu hp, fun hz => (h.row hz).pu hp, h.ns, h.lenu, h.lenb, h.gl, h.xg, h.bn, h.ln, h.gn, h.w0n, Nat.le_trans h.nn hp.size, h.since.trans hp⟩
theorem UB.nil (h : UB w0 w N G ub bb x g zs lu lb) (hl : lb ≠ []) : zs ≠ [] := by
  intro hz
  have := h.ns
  rw [hz] at this
  unfold nsL at this
  exact hl (List.map_eq_nil_iff.1 this)
/-- The users change (and blocks that are new). -/
theorem UB.users (h : UB w0 w N G ub bb x g zs lu lb) {lu' : List UserS} (hu : UsersAt G w' ub lu') (hl : ∀ y ∈ lu', y.secret.length = 32) {hb : Nat} (hhb : N ≤ hb) (hne : ∀ b, b = bb ∨ (lb ≠ [] ∧ b = x.gL) ∨ x.G b → b ≠ hb) (hc : Cg (fun b => G b ∨ b = hb) w w') : UB w0 w' N G ub bb x g zs lu' lb := by
  refine ⟨hu, h.k.cg hc ?_ ?_ ?_, fun hz => hc.row (h.row hz) ?_, h.ns, hl, h.lenb, h.gl, h.xg, h.bn, h.ln, h.gn, h.w0n, Nat.le_trans h.nn hc.size, Cg.below h.since hc ?_ h.since.size⟩
  · rintro (e | e)
    · have := (h.gl _ e).2; have := h.bn; omega
    · exact hne bb (.inl rfl) e
  · intro hl0
    rintro (e | e)
    · have := (h.gl _ e).2; have := h.ln (h.nil hl0); omega
    · exact hne x.gL (.inr (.inl ⟨hl0, rfl⟩)) e
  · intro b hb0
    rintro (e | e)
    · have := (h.gl _ e).2; have := h.xg b hb0; omega
    · exact hne b (.inr (.inr hb0)) e
  · rintro (e | e)
    · exact (h.gn hz).1 e
    · have := (h.gn hz).2; omega
  · rintro b (e | e)
    · exact (h.gl _ e).1
    · have := h.w0n; omega
/-- The book changes (and a block that is new). -/
theorem UB.books (h : UB w0 w N G ub bb x g zs lu lb) {lb' : List UserS} (hk : BookAt w' bb x lb') (hns : nsL lb' = zs) (hl : ∀ y ∈ lb', y.secret.length = 32) {rb : Nat} (hrb : N ≤ rb) (hc : Cg (fun b => x.G b ∨ b = rb) w w') : UB w0 w' N G ub bb x g zs lu lb' := by
  refine ⟨h.u.cg hc ?_, hk, fun hz => hc.row (h.row hz) ?_, hns, h.lenu, hl, h.gl, h.xg, h.bn, h.ln, h.gn, h.w0n, Nat.le_trans h.nn hc.size, Cg.below h.since hc ?_ h.since.size⟩
  · rintro b (e | e) hG
    · have := (h.gl _ hG).2; have := h.xg b e; omega
    · have := (h.gl _ hG).2; omega
  · rintro (e | e)
    · have := (h.gn hz).2; have := h.xg g e; omega
    · have := (h.gn hz).2; omega
  · rintro b (e | e)
    · have := h.xg b e; have := h.w0n; omega
    · have := h.w0n; omega
end
/-- .. and a host, and the document's host. -/
structure HR (w0 w : World) (N : Nat) (G : Nat → Prop) (ub bb : Nat) (x : BI) (g : Nat) (zs : List (Bs × Bs)) (hb rb : Nat) (nb : Bs) (lu lb : List UserS) (sh sr : HSt) : Prop where
  base : UB w0 w N G ub bb x g zs lu lb
  h : HostAt w hb ub nb sh
  r : RefRow w rb bb nb (stepOf sr) sr
  hn : N ≤ hb
  rn : N ≤ rb
section
variable {w0 w w' : World} {N : Nat} {G : Nat → Prop} {ub bb : Nat} {x : BI} {g : Nat} {zs : List (Bs × Bs)} {hb rb : Nat} {nb : Bs} {lu lb : List UserS} {sh sr : HSt}
theorem HR.pu (h : HR w0 w N G ub bb x g zs hb rb nb lu lb sh sr) (hp : Pu w w') : HR w0 w' N G ub bb x g zs hb rb nb lu lb sh sr := ⟨h.base.pu hp, h.h.pu hp, Row.pu h.r hp, h.hn, h.rn⟩
theorem HR.hne (h : HR w0 w N G ub bb x g zs hb rb nb lu lb sh sr) : ∀ b, b = bb ∨ (lb ≠ [] ∧ b = x.gL) ∨ x.G b → b ≠ hb := by
  have hh : Row w hb 123 (hostC ub nb sh) := h.h
  rintro b (rfl | ⟨hl, rfl⟩ | (rfl | rfl | rfl))
  · exact rowNe h.base.k.b hh (by decide)
  · exact rowNe (h.base.k.usr hl).2 hh (by decide)
  · exact rowNe h.base.k.f hh (by decide)
  · exact rowNe h.base.k.u hh (by decide)
  · exact rowNe h.base.k.k hh (by decide)
theorem HR.got (h : HR w0 w N G ub bb x g zs hb rb nb lu lb sh sr) (hs : SInv sh) (hn : nb.length = 16) (b : Bs) (hbl : b.length ≤ 600) (now : Int) (n1 : -9223372036854775808 ≤ now) (n2 : now ≤ 9223372036854775807) :
    Calls Tryz.prog 30 #[.pointer (some ⟨hb, 0, none⟩), S b, .int .i64 now] w fun e w' => e = .returned (.tuple #[S (gotR nb lu sh b now).out, .int .i64 ((gotR nb lu sh b now).err : Int)]) ∧ HR w0 w' N G ub bb x g zs hb rb nb (gotR nb lu sh b now).l lb (gotR nb lu sh b now).st sr ∧ Cg (fun b => G b ∨ b = hb) w w' := by
  have hnG : ¬ G hb := fun e => by have := (h.base.gl _ e).2; have := h.hn; omega
  refine (gotW h.h h.base.u hnG hn h.base.lenu (by have := hs.ul; omega) (by have := hs.pl; omega) (by have := hs.got; omega) b (by omega) now n1 n2).mono ?_
  rintro e w' ⟨rfl, h1, h2, h3⟩
  refine ⟨rfl, ⟨h.base.users h2 ((gotR_l nb lu sh b now).2 h.base.lenu) h.hn h.hne h3, h1, h3.row (xs := refC bb nb (stepOf sr) sr) h.r ?_, h.hn, h.rn⟩, h3⟩
  rintro (e | e)
  · have := (h.base.gl _ e).2; have := h.rn; omega
  · exact rowNe (xs := refC bb nb (stepOf sr) sr) (ys := hostC ub nb sh) h.r h.h (by decide) e
theorem HR.rgot (h : HR w0 w N G ub bb x g zs hb rb nb lu lb sh sr) (hs : SInv sr) (hn : nb.length = 16) (b : Bs) (hbl : b.length ≤ 600) (now : Int) (n1 : -9223372036854775808 ≤ now) (n2 : now ≤ 9223372036854775807) :
    Calls Tryz.prog 40 #[.pointer (some ⟨rb, 0, none⟩), S b, .int .i64 now] w fun e w' => e = .returned (.tuple #[S (gotR nb lb sr b now).out, .int .i64 ((gotR nb lb sr b now).err : Int)]) ∧ HR w0 w' N G ub bb x g zs hb rb nb lu (gotR nb lb sr b now).l sh (gotR nb lb sr b now).st := by
  have hrb : RB w w rb bb x nb (stepOf sr) sr lb := ⟨h.r, h.base.k, Cg.refl _ _⟩
  refine (refGot hrb hs.ok hn h.base.lenb (by have := hs.pl; omega) b (by omega) now n1 n2).mono ?_
  rintro e w' ⟨rfl, h1⟩
  refine ⟨rfl, h.base.books h1.k (by rw [(gotR_l nb lb sr b now).1]; exact h.base.ns) ((gotR_l nb lb sr b now).2 h.base.lenb) h.rn h1.cg, h1.cg.row (xs := hostC ub nb sh) h.h ?_, h1.h, h.hn, h.rn⟩
  rintro (e | e)
  · exact h.hne hb (.inr (.inr e)) rfl
  · exact rowNe (xs := hostC ub nb sh) (ys := refC bb nb (stepOf sr) sr) h.h h.r (by decide) e
/-- A new host and a new one of the document's. -/
theorem HR.start (h : UB w0 w N G ub bb x g zs lu lb) {w1 : World} (hh : HostAt w1 hb ub nb hst0) (hhb : w.heap.size ≤ hb) (hp : Pu w w1) (hr : RefRow w' rb bb nb 0 hst0) (hrb : w1.heap.size ≤ rb) (hp1 : Pu w1 w') : HR w0 w' N G ub bb x g zs hb rb nb lu lb hst0 hst0 :=
  ⟨h.pu (hp.trans hp1), hh.pu hp1, hr, Nat.le_trans h.nn hhb, Nat.le_trans h.nn (Nat.le_trans hp.size hrb)⟩
end
theorem row_cells6 {w : World} {g : Nat} {e : TypeId} {a b c d x y : Value} (h : Row w g e [a, b, c, d, x, y]) : w.cell? ⟨g, 0, none⟩ = some a ∧ w.cell? ⟨g, 1, none⟩ = some b ∧ w.cell? ⟨g, 2, none⟩ = some c ∧ w.cell? ⟨g, 3, none⟩ = some d ∧ w.cell? ⟨g, 4, none⟩ = some x ∧ w.cell? ⟨g, 5, none⟩ = some y := by
  refine ⟨?_, ?_, ?_, ?_, ?_, ?_⟩
  · have := h.cell 0 (by simp); simpa using this
  · have := h.cell 1 (by simp); simpa using this
  · have := h.cell 2 (by simp); simpa using this
  · have := h.cell 3 (by simp); simpa using this
  · have := h.cell 4 (by simp); simpa using this
  · have := h.cell 5 (by simp); simpa using this
theorem helloR_len (u n : Bs) (hu : u.length ≤ 40) (hn : n.length = 16) : (optV (helloR u n)).length ≤ 600 := by
  unfold helloR
  split
  · show (helloL u n).length ≤ 600
    rw [helloL_length]; omega
  · show (0 : Nat) ≤ 600
    omega
theorem index_of32h (a : Int) : ∃ i : Nat, ∃ r : Int, a.tmod 32 = r ∧ -32 < r ∧ r < 32 ∧ IntKind.i64.wrap (r + 32) = r + 32 ∧ (r + 32).tmod 32 = i ∧ i < 32 := by
  have hr1 : -(32 : Int) < a.tmod 32 := Int.lt_tmod_of_pos a (by omega)
  have hr2 : a.tmod 32 < 32 := Int.tmod_lt_of_pos a (by omega)
  have h5 : 0 ≤ (a.tmod 32 + 32) := by omega
  have h6 : (a.tmod 32 + 32).tmod 32 = (a.tmod 32 + 32) % 32 := Int.tmod_eq_emod_of_nonneg h5
  refine ⟨((a.tmod 32 + 32) % 32).toNat, _, rfl, hr1, hr2, by rw [IntKind.wrap_i64]; omega, ?_, by omega⟩
  rw [h6]; omega
theorem bnd64H {n : Int} (h : (Lit.int .i64 n).wf = true) : -9223372036854775808 ≤ n ∧ n ≤ 9223372036854775807 := by
  simp [Lit.wf, IntKind.min, IntKind.max, IntKind.signed, IntKind.bits] at h
  omega
end Go.Proofs.YtlbdbmnkjljohaaGreat
