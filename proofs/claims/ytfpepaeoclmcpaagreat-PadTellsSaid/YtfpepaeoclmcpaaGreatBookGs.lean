/- Package escutcheonbook: lists grown: what is kept of all of them. -/
import Derived.Test.YtfpepaeoclmcpaaGreatBookGrow
import Derived.Maps.AppendAt
namespace Go.Proofs.YtfpepaeoclmcpaaGreat
open Go.RowKit Go.Esc
/-- The slice v holds the values xs. -/
def HL (w : World) (v : Value) (xs : List Value) : Prop := ∃ g cap, v = .slice (some ⟨g, 0, none⟩) xs.length cap ∧ g < w.heap.size ∧ ∀ j u, xs[j]? = some u → w.cell? ⟨g, j, none⟩ = some u
theorem HL.pu {w w' : World} {v : Value} {xs : List Value} (h : HL w v xs) (hp : Pu w w') : HL w' v xs := by
  obtain ⟨g, cap, hv, hg, hc⟩ := h
  exact ⟨g, cap, hv, Nat.lt_of_lt_of_le hg hp.size, fun j u hj => by rw [Below.cell hp (p := ⟨g, j, none⟩) hg]; exact hc j u hj⟩
theorem HL.grown {w w' : World} {v : Value} {xs : List Value} {row : Option Nat} (h : HL w v xs) (hp : w.grownBy w' row) (hne : v.ownBlock ≠ row) : HL w' v xs := by
  obtain ⟨g, cap, rfl, hg, hc⟩ := h
  refine ⟨g, cap, rfl, Nat.lt_of_lt_of_le hg hp.size, fun j u hj => ?_⟩
  have := hp.block g hg (fun e => hne (by rw [← e]; rfl))
  simp only [World.cell?, this]
  exact hc j u hj
theorem HL.keep {w w' : World} {v : Value} {xs : List Value} {q n : Nat} (h : HL w v xs) (hp : w.grownBy w' (some q)) (hk : ∀ j, j < n → w'.cell? ⟨q, j, none⟩ = w.cell? ⟨q, j, none⟩) (hn : xs.length ≤ n) : HL w' v xs := by
  by_cases he : v.ownBlock = some q
  · obtain ⟨g, cap, rfl, hg, hc⟩ := h
    obtain rfl : g = q := by simpa [Value.ownBlock] using he
    refine ⟨g, cap, rfl, Nat.lt_of_lt_of_le hg hp.size, fun j u hj => ?_⟩
    have hjl := (List.getElem?_eq_some_iff.1 hj).1
    rw [hk j (by omega)]
    exact hc j u hj
  · exact h.grown hp he
theorem HL.own {w : World} {B e n : Nat} {v : Value} {xs : List Value} (h : w.ownsRow B e 1 v n xs) (hl : xs.length = n) (h0 : 0 < n) : HL w v xs := by
  obtain ⟨g, cap, rfl, _, hg⟩ := own_form h h0
  subst hl
  exact ⟨g, cap, rfl, hg, fun j u hj => by
    have hjl := (List.getElem?_eq_some_iff.1 hj).1
    rw [h.cellAt j (by omega)]; exact hj⟩
theorem HL.lt {w : World} {v : Value} {xs : List Value} (h : HL w v xs) {q : Nat} (hq : v.ownBlock = some q) : q < w.heap.size := by
  obtain ⟨g, cap, rfl, hg, _⟩ := h
  obtain rfl : g = q := by simpa [Value.ownBlock] using hq
  exact hg
theorem HL.cells {w : World} {g n cap : Nat} {xs : List Value} (h : HL w (.slice (some ⟨g, 0, none⟩) n cap) xs) : ∀ j u, xs[j]? = some u → w.cell? ((⟨g, 0, none⟩ : Addr).add j) = some u := by
  obtain ⟨g', cap', hv, _, hc⟩ := h
  cases hv
  intro j u hj; have := hc j u hj; cases j <;> simpa [Addr.add] using this
theorem HL.li {w : World} {v : Value} {l : List Int} (h : HL w v (ints l)) (hl : l.length ≤ 100000) : LI w v l := by
  obtain ⟨g, cap, hv, hg, hc⟩ := h
  exact ⟨g, cap, by rw [hv]; simp [ints], hl, hg, hc⟩
/-- What does not change of the lists. -/
structure Fix (G : Nat → Prop) (w0 : World) (vs : List Value) : Prop where
  below : ∀ g, G g → g < w0.heap.size
  of : ∀ (j : Nat) (v : Value) (g : Nat), vs[j]? = some v → v.ownBlock = some g → G g
  apart : ∀ (a b : Nat) (u v : Value), a ≠ b → vs[a]? = some u → vs[b]? = some v → u.ownBlock = none ∨ u.ownBlock ≠ v.ownBlock
/-- The lists vs, of which those before i are grown (into us), those from k on are not yet. -/
structure Gs (G : Nat → Prop) (E T : TypeId) (mk : Nat → Nat → List Value) (n : Nat → Nat) (w0 w : World) (vs : List Value) (i k : Nat) (out : Value) (us : List Value) : Prop where
  cg : Cg G w0 w
  own : w.ownsRow w0.heap.size T 1 out us.length us
  todo : ∀ (j : Nat) (v : Value), k ≤ j → vs[j]? = some v → w.ownsRow 0 E 1 v (n j) (mk j (n j))
  old : ∀ (j : Nat) (v : Value), j < i → vs[j]? = some v → HL w v (mk j (n j))
  new : ∀ (j : Nat) (u : Value), us[j]? = some u → HL w u (mk j (n j + 72)) ∧ out.ownBlock ≠ u.ownBlock ∧ ∃ q, u.ownBlock = some q ∧ (w0.heap.size ≤ q ∨ ∃ v, vs[j]? = some v ∧ v.ownBlock = some q)
section
variable {G : Nat → Prop} {E T : TypeId} {mk : Nat → Nat → List Value} {n : Nat → Nat} {w0 w : World} {vs : List Value} {i k : Nat} {out : Value} {us : List Value}
theorem Gs.pu (h : Gs G E T mk n w0 w vs i k out us) {w' : World} (hp : Pu w w') : Gs G E T mk n w0 w' vs i k out us :=
  ⟨h.cg.pu hp, own_puQ h.own hp, fun j v hj hv => own_puQ (h.todo j v hj hv) hp, fun j v hj hv => (h.old j v hj hv).pu hp, fun j u hj => ⟨(h.new j u hj).1.pu hp, (h.new j u hj).2⟩⟩
theorem Gs.next (h : Gs G E T mk n w0 w vs i i out us) : Gs G E T mk n w0 w vs i (i+1) out us :=
  ⟨h.cg, h.own, fun j v hj hv => h.todo j v (by omega) hv, h.old, h.new⟩
theorem Cg.grown' {a b c : World} {row : Option Nat} (h : Cg G a b) (hp : b.grownBy c row) (hg : ∀ q, row = some q → G q ∨ a.heap.size ≤ q) : Cg G a c :=
  ⟨hp.os.trans h.os, hp.tape.trans h.tape, hp.output.trans h.output, Nat.le_trans h.size hp.size, fun j hj hn => (hp.block j (Nat.lt_of_lt_of_le hj h.size) (fun e => by
    rcases hg j e.symm with h1 | h1
    · exact hn h1
    · omega)).trans (h.block j hj hn)⟩
theorem Fix.ne (hF : Fix G w0 vs) {q : Nat} {vi : Value} (hvi : vs[i]? = some vi) (hq : w0.heap.size ≤ q ∨ vi.ownBlock = some q) {j : Nat} {v : Value} (hj : vs[j]? = some v) (hne : j ≠ i) : v.ownBlock = none ∨ v.ownBlock ≠ some q := by
  cases hv : v.ownBlock with
  | none => exact .inl rfl
  | some g =>
    refine .inr fun e => ?_
    cases e
    rcases hq with h1 | h1
    · have := hF.below _ (hF.of j v q hj hv); omega
    · rcases hF.apart j i v vi hne hj hvi with h2 | h2
      · rw [h2] at hv; cases hv
      · exact h2 (by rw [hv, h1])
theorem Gs.grow (hF : Fix G w0 vs) (h : Gs G E T mk n w0 w vs i (i+1) out us) {q : Nat} {w' : World} {vi : Value} (hvi : vs[i]? = some vi) (hg : w.grownBy w' (some q)) (hq : w0.heap.size ≤ q ∨ vi.ownBlock = some q)
    (ho : out.ownBlock ≠ some q) (hu : ∀ (j : Nat) (u : Value), us[j]? = some u → u.ownBlock ≠ some q) : Gs G E T mk n w0 w' vs i (i+1) out us := by
  refine ⟨h.cg.grown' hg ?_, h.own.kept hg (.inr ho), fun j v hj hv => (h.todo j v hj hv).kept hg (hF.ne hvi hq hv (by omega)), fun j v hj hv => (h.old j v hj hv).grown hg ?_, fun j u hj => ⟨(h.new j u hj).1.grown hg (hu j u hj), (h.new j u hj).2⟩⟩
  · intro q' e
    cases e
    rcases hq with h1 | h1
    · exact .inr h1
    · exact .inl (hF.of i vi q hvi h1)
  · rcases hF.ne hvi hq hv (by omega) with h1 | h1
    · rw [h1]; exact fun e => nomatch e
    · exact h1
theorem Gs.push (hF : Fix G w0 vs) (h : Gs G E T mk n w0 w vs i (i+1) out us) (hl : us.length = i) {q : Nat} {w' : World} {vi u out' : Value} (hvi : vs[i]? = some vi) (hHi : HL w vi (mk i (n i))) (hu : HL w u (mk i (n i + 72)))
    (hb : u.ownBlock = some q) (hq : w0.heap.size ≤ q ∨ vi.ownBlock = some q) (ho : out.ownBlock ≠ some q)
    (hown : w'.ownsRow w0.heap.size T 1 out' (us.length + 1) (us ++ [u])) (hg : w.grownBy w' out.ownBlock) (hat : out'.ownBlock = out.ownBlock ∨ out'.ownBlock = some w.heap.size) :
    Gs G E T mk n w0 w' vs (i+1) (i+1) out' (us ++ [u]) := by
  have hob : ∀ (j : Nat) (v : Value), vs[j]? = some v → v.ownBlock = none ∨ v.ownBlock ≠ out.ownBlock := fun j v hj => by
    cases hv : v.ownBlock with
    | none => exact .inl rfl
    | some g =>
      refine .inr fun e => ?_
      have h1 := hF.below _ (hF.of j v g hj hv)
      have h2 := (h.own.lt g e.symm).1
      omega
  have hob' : ∀ (v : Value) (xs : List Value), HL w v xs → v.ownBlock ≠ out.ownBlock → out'.ownBlock ≠ v.ownBlock := fun v xs hv hne e => by
    rcases hat with h1 | h1
    · exact hne (e.symm.trans h1)
    · have := hv.lt (e.symm.trans h1); omega
  have hold : ∀ (j : Nat) (v : Value), j < i + 1 → vs[j]? = some v → HL w' v (mk j (n j)) := fun j v hj hv => by
    have hw : HL w v (mk j (n j)) := by
      by_cases hji : j = i
      · subst hji; rw [hvi] at hv; cases hv; exact hHi
      · exact h.old j v (by omega) hv
    refine hw.grown hg ?_
    rcases hob j v hv with h1 | h1
    · obtain ⟨g, c, rfl, _⟩ := hw; cases h1
    · exact h1
  refine ⟨h.cg.grown' hg fun q' e => .inr (h.own.lt q' e).1, by simpa using hown, fun j v hj hv => (h.todo j v hj hv).kept hg (hob j v hv), hold, fun j x hj => ?_⟩
  by_cases hji : j < us.length
  · rw [List.getElem?_append_left hji] at hj
    obtain ⟨h1, h2, h3⟩ := h.new j x hj
    exact ⟨h1.grown hg (Ne.symm h2), hob' x _ h1 (Ne.symm h2), h3⟩
  · have hj2 := (List.getElem?_eq_some_iff.1 hj).1
    simp at hj2
    obtain rfl : j = us.length := by omega
    simp at hj
    subst hj
    rw [hl]
    have hne : u.ownBlock ≠ out.ownBlock := fun e => ho (by rw [← e, hb])
    refine ⟨hu.grown hg hne, hob' u _ hu hne, q, hb, ?_⟩
    rcases hq with h1 | h1
    · exact .inl h1
    · exact .inr ⟨vi, hvi, h1⟩
end
end Go.Proofs.YtfpepaeoclmcpaaGreat
