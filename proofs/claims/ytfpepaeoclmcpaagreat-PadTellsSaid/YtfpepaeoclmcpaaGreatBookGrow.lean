/- Package escutcheonbook: lists of numbers grown: laws. -/
import Derived.Test.YtfpepaeoclmcpaaGreatBookPut
import Derived.ArgAppend
import Derived.OwnWalk
namespace Go.Proofs.YtfpepaeoclmcpaaGreat
open Go.RowKit Go.Esc
theorem marksL_append (i f n m : Nat) : marksL i f n ++ marksL i (f+n) m = marksL i f (n+m) := by
  induction m with
  | zero => simp [marksL]
  | succ m ih => rw [marksL_succ, ← List.append_assoc, ih, ← Nat.add_assoc, marksL_succ, Nat.add_assoc]
/-- A slice's head holds what the longer row holds. -/
theorem LI.prefix {w : World} {B g n cap cap' : Nat} {l r : List Int} (h : w.ownsRow B 3 1 (.slice (some ⟨g, 0, none⟩) n cap') n (ints (l ++ r))) (hl : l.length + r.length = n) (hm : l.length ≤ 100000) (h0 : 0 < n) :
    LI w (.slice (some ⟨g, 0, none⟩) l.length cap) l := by
  obtain ⟨g', c', hv, _, hg⟩ := own_form h h0
  cases hv
  refine ⟨g, cap, rfl, hm, hg, fun j u hj => ?_⟩
  have hjl : j < l.length := by
    have := (List.getElem?_eq_some_iff.1 hj).1
    simpa [ints] using this
  rw [h.cellAt j (by omega)]
  simp only [ints, List.map_append] at hj ⊢
  rw [List.getElem?_append_left (by simpa using hjl)]
  exact hj
/-- An append onto a row of the call's own: in one way, with what is known of the old block: its first cells stay. -/
theorem wpList_append_keep {P : Program} (w : World) {ops : Array Oper} {rest : List Oper} {o : Oper} {a : Act} {Q : Exit → Act → World → Prop}
    (hg : o.guard = none) (s x : Operand) (t : TypeId) (hop : o.op = Op.call { callee := Callee.builtin Builtin.append, args := #[s, x], argTypes := #[t, t] })
    (base : Nat) (e : TypeId) (i : TypeInfo) (z : Value) (bytes : Nat) (h1 : P.underlying t = some (.slice e)) (h2 : P.info? e = some i) (h3 : i.zero = some z) (h4 : i.size = 1) (h5 : i.bytes = bytes) (h6 : z.cells.size = 1)
    (g n cap : Nat) (xs : List Value) (hs : a.eval s = .slice (some ⟨g, 0, none⟩) n cap) (hown : w.ownsRow base e 1 (.slice (some ⟨g, 0, none⟩) n cap) n xs) (hxl : xs.length = n)
    (ad : Addr) (m c : Nat) (news : List Value) (hx : a.eval x = .slice (some ad) m c) (hn : news.length = m) (hc : ∀ j u, news[j]? = some u → w.cell? (ad.add j) = some u) (h1c : ∀ u ∈ news, u.oneCell' = true)
    (b1 : n + m ≤ maxLen) (b2 : (n + m) * bytes ≤ 140737488355328) (hb : base ≤ w.heap.size)
    (hK : ∀ g' cap' w', w'.ownsRow base e 1 (.slice (some ⟨g', 0, none⟩) (n + m) cap') (n + m) (xs ++ news) → w.grownBy w' (some g) → (∀ j, j < n → w'.cell? ⟨g, j, none⟩ = w.cell? ⟨g, j, none⟩) → (g' = g ∨ w.heap.size ≤ g') → wpList P ops Q rest (a.put o.dst (.slice (some ⟨g', 0, none⟩) (n + m) cap')) w')
    (h0 : 0 < n) : wpList P ops Q (o :: rest) a w := by
  have hold : ∀ j u, xs[j]? = some u → w.cell? ⟨g, 0 + j, none⟩ = some u := fun j u hj => by
    have hjl := (List.getElem?_eq_some_iff.1 hj).1
    rw [Nat.zero_add, hown.cellAt j (by omega)]; exact hj
  by_cases hr : n + m ≤ cap
  · refine wpList_append_fits w hg s x t hop base e i 1 h1 h2 h4 g n cap xs hs hown ad m c news hx (by omega) hc h1c hr fun w' ho hgr => hK g cap w' ho hgr (fun j hj => ?_) (.inl rfl)
    rw [ho.cellAt j (by omega), hown.cellAt j (by omega), List.getElem?_append_left (by omega)]
  · have hlt : g < w.heap.size := by obtain ⟨g', c', hv, _, hg'⟩ := own_form hown h0; cases hv; exact hg'
    refine wpList_append_arg w hg s x t hop e i z 1 bytes h1 h2 h3 h4 h5 h6 (by decide) g 0 n cap xs hs (by omega) hold ad m c news hx (by omega) hc h1c (fun h => absurd h hr) b1 b2 (fun h => absurd h hr) fun _ v' w' ho hgr => ?_
    obtain ⟨g', cap', rfl, hb', _⟩ := own_form ho (by omega)
    refine hK g' cap' w' ?_ ⟨hgr.os, hgr.tape, hgr.output, hgr.size, fun k hk _ => hgr.block k hk (by simp)⟩ (fun j _ => ?_) (.inr hb')
    · refine ⟨ho.1, ?_⟩
      rcases ho.2 with hh | ⟨g2, c2, cur, hv, hg2, rest2⟩
      · exact .inl hh
      · exact .inr ⟨g2, c2, cur, hv, by omega, rest2⟩
    · have := hgr.block g hlt (by simp)
      simp only [World.cell?, this]
end Go.Proofs.YtfpepaeoclmcpaaGreat
