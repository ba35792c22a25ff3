/- Chapter 13: three lists of texts beside an Out and an In. -/
import Derived.Test.YticdbilkhkfopaaGreatT18
import Derived.Test.YticdbilkhkfopaaGreatOrdP
import Derived.Laws.AppendOwnNone
namespace Go.Esc
open Go Go.RowKit
/-- 'append(s, x...)', both the call's own, either may be nil. -/
theorem wpList_append_two {P : Program} {w : World} {ops : Array Oper} {rest : List Oper} {o : Oper} {a : Act} {Q : Exit → Act → World → Prop} (hgd : o.guard = none) (s x : Operand) (t : TypeId)
    (ho : o.op = .call { callee := .builtin .append, args := #[s, x], argTypes := #[t, t] })
    (base : Nat) (e : TypeId) (i : TypeInfo) (z : Value) (bytes : Nat) (ht : P.underlying t = some (.slice e)) (hi : P.info? e = some i) (hz : i.zero = some z)
    (hsize : i.size = 1) (hby : i.bytes = bytes) (hzs : z.cells.size = 1)
    (v : Value) (n : Nat) (xs : List Value) (hs : a.eval s = v) (hown : w.ownsRow base e 1 v n xs)
    (base2 : Nat) (u : Value) (m : Nat) (news : List Value) (hx : a.eval x = u) (hownu : w.ownsRow base2 e 1 u m news) (h1 : ∀ u ∈ news, u.oneCell' = true)
    (h63 : n + m ≤ maxLen) (hbytes : (n + m) * bytes ≤ 140737488355328) (hbase : base ≤ w.heap.size)
    (h : ∀ v' w', w'.ownsRow base e 1 v' (n + m) (xs ++ news) → w.grownBy w' v.ownBlock → (v'.ownBlock = v.ownBlock ∨ v'.ownBlock = some w.heap.size) → wpList P ops Q rest (a.put o.dst v') w') :
    wpList P ops Q (o :: rest) a w := by
  rcases hownu.2 with ⟨hu, hm⟩ | ⟨g, cap, cur, hu, -, -, -, -, -, -⟩
  · subst hu; subst hm
    have hnw : news = [] := List.eq_nil_of_length_eq_zero (by have := hownu.1; simpa using this)
    subst hnw
    refine wpList_append_own_none hgd s x t ho base e i 1 ht hi v n xs hs hown hx ?_
    exact h v w (by simpa using hown) ⟨rfl, rfl, rfl, Nat.le_refl _, fun _ _ _ => rfl⟩ (.inl rfl)
  · subst hu
    have hc := hownu.cells (g := g) rfl
    exact wpList_append_own_at _ hgd s x t ho base e i z 1 bytes ht hi hz hsize hby hzs (by decide) v n xs hs hown ⟨g, 0, none⟩ m cap news hx hownu.1 hc h1 h63 hbytes hbase (fun v' w' h2 h3 _ h5 => h v' w' h2 h3 h5)
end Go.Esc
namespace Go.Proofs.YticdbilkhkfopaaGreat
open Go.RowKit Go.Esc
structure OI3 (Go Gi : Nat → Prop) (w0 w : World) (ob ib : Nat) (k1 k2 : Bs) (m1 n m2 : Nat) (s : InS) (v1 : Value) (L1 : List Bs) (v2 : Value) (L2 : List Bs) (v3 : Value) (L3 : List Bs) : Prop where
  oi : OI Go Gi w0 w ob ib k1 k2 m1 n m2 s
  own1 : w.ownsRow w0.heap.size 9 1 v1 L1.length (L1.map S)
  own2 : w.ownsRow w0.heap.size 9 1 v2 L2.length (L2.map S)
  own3 : w.ownsRow w0.heap.size 9 1 v3 L3.length (L3.map S)
  ap1 : ∀ g, v1.ownBlock = some g → ¬ Go g ∧ ¬ Gi g
  ap2 : ∀ g, v2.ownBlock = some g → ¬ Go g ∧ ¬ Gi g
  ap3 : ∀ g, v3.ownBlock = some g → ¬ Go g ∧ ¬ Gi g
  d12 : ∀ g, v1.ownBlock = some g → v2.ownBlock ≠ some g
  d13 : ∀ g, v1.ownBlock = some g → v3.ownBlock ≠ some g
  d23 : ∀ g, v2.ownBlock = some g → v3.ownBlock ≠ some g
section
variable {Go Gi : Nat → Prop} {w0 w : World} {ob ib : Nat} {k1 k2 : Bs} {m1 n m2 : Nat} {s : InS} {v1 v2 v3 : Value} {L1 L2 L3 : List Bs}
theorem OI3.rot (h : OI3 Go Gi w0 w ob ib k1 k2 m1 n m2 s v1 L1 v2 L2 v3 L3) : OI3 Go Gi w0 w ob ib k1 k2 m1 n m2 s v2 L2 v3 L3 v1 L1 :=
  ⟨h.oi, h.own2, h.own3, h.own1, h.ap2, h.ap3, h.ap1, h.d23, fun g a b => h.d12 g b a, fun g a b => h.d13 g b a⟩
theorem OI3.pu (h : OI3 Go Gi w0 w ob ib k1 k2 m1 n m2 s v1 L1 v2 L2 v3 L3) {w' : World} (hp : Pu w w') : OI3 Go Gi w0 w' ob ib k1 k2 m1 n m2 s v1 L1 v2 L2 v3 L3 :=
  ⟨h.oi.pu hp, own_pu h.own1 hp, own_pu h.own2 hp, own_pu h.own3 hp, h.ap1, h.ap2, h.ap3, h.d12, h.d13, h.d23⟩
theorem OI3.start (h : OI Go Gi w0 w ob ib k1 k2 m1 n m2 s) : OI3 Go Gi w0 w ob ib k1 k2 m1 n m2 s (.slice none 0 0) [] (.slice none 0 0) [] (.slice none 0 0) [] :=
  ⟨h, World.ownsRow_nil _ _ _ _, World.ownsRow_nil _ _ _ _, World.ownsRow_nil _ _ _ _, fun _ h => (by cases h), fun _ h => (by cases h), fun _ h => (by cases h), fun _ h => (by cases h), fun _ h => (by cases h), fun _ h => (by cases h)⟩
theorem oi3Seal (h : OI3 Go Gi w0 w ob ib k1 k2 m1 n m2 s v1 L1 v2 L2 v3 L3) (hk : k1.length = 32) (p pp : Bs) (hp : padL p = some pp) (hn : n < 400) (hm : m1 ≤ 100000) (hl : p.length ≤ 140737488351232) :
    Calls Tryz.prog 55 #[.pointer (some ⟨ob, 0, none⟩), S p] w fun e w' => e = .returned (.tuple #[S (recL k1 n p), .int .i64 0]) ∧ OI3 (Gw Go w w') Gi w0 w' ob ib k1 k2 (m1+1) (n+1) m2 s v1 L1 v2 L2 v3 L3 := by
  refine (oiSeal h.oi hk p pp hp hn hm hl).mono ?_
  rintro e w' ⟨rfl, ho, hc⟩
  have key : ∀ {v : Value} {L : List Bs}, w.ownsRow w0.heap.size 9 1 v L.length (L.map S) → (∀ g, v.ownBlock = some g → ¬ Go g ∧ ¬ Gi g) → w'.ownsRow w0.heap.size 9 1 v L.length (L.map S) ∧ ∀ g, v.ownBlock = some g → ¬ Gw Go w w' g ∧ ¬ Gi g := fun ho ha => ⟨own_cg ho hc (fun g hg => (ha g hg).1), fun g hg => ⟨fun hh => by
    rcases hh with h1 | h1
    · exact (ha g hg).1 h1
    · have := (ho.lt g hg).2; omega, (ha g hg).2⟩⟩
  have a1 := key h.own1 h.ap1
  have a2 := key h.own2 h.ap2
  have a3 := key h.own3 h.ap3
  exact ⟨rfl, ho, a1.1, a2.1, a3.1, a1.2, a2.2, a3.2, h.d12, h.d13, h.d23⟩
theorem oi3Open (h : OI3 Go Gi w0 w ob ib k1 k2 m1 n m2 s v1 L1 v2 L2 v3 L3) (hk : k2.length = 32) (b : Bs) (hm : m2 ≤ 90000) (hb : b.length ≤ 90000) :
    Calls Tryz.prog 61 #[.pointer (some ⟨ib, 0, none⟩), S b] w fun e w' => ∃ v', e = .returned (.tuple #[v', .int .i64 ((openS k2 s b).1 : Int)]) ∧ w'.ownsRow w.heap.size 9 1 v' (openS k2 s b).2.1.length ((openS k2 s b).2.1.map S) ∧
      OI3 Go (fun g => Gw Gi w w' g ∧ v'.ownBlock ≠ some g) w0 w' ob ib k1 k2 m1 n (m2+1) (openS k2 s b).2.2 v1 L1 v2 L2 v3 L3 ∧ Cg Gi w w' := by
  refine (oiOpen h.oi hk b hm hb).mono ?_
  rintro e w' ⟨v', rfl, ho, hoi, hc⟩
  have key : ∀ {v : Value} {L : List Bs}, w.ownsRow w0.heap.size 9 1 v L.length (L.map S) → (∀ g, v.ownBlock = some g → ¬ Go g ∧ ¬ Gi g) → w'.ownsRow w0.heap.size 9 1 v L.length (L.map S) ∧ ∀ g, v.ownBlock = some g → ¬ Go g ∧ ¬ (Gw Gi w w' g ∧ v'.ownBlock ≠ some g) := fun ho ha => ⟨own_cg ho hc (fun g hg => (ha g hg).2), fun g hg => ⟨(ha g hg).1, fun hh => by
    rcases hh.1 with h1 | h1
    · exact (ha g hg).2 h1
    · have := (ho.lt g hg).2; omega⟩⟩
  have a1 := key h.own1 h.ap1
  have a2 := key h.own2 h.ap2
  have a3 := key h.own3 h.ap3
  exact ⟨v', rfl, ho, ⟨hoi, a1.1, a2.1, a3.1, a1.2, a2.2, a3.2, h.d12, h.d13, h.d23⟩, hc⟩
theorem OI3.chg (h : OI3 Go Gi w0 w ob ib k1 k2 m1 n m2 s v1 L1 v2 L2 v3 L3) {w' : World} {v' : Value} {L' : List Bs} (hc : Cg (fun g => v1.ownBlock = some g) w w') (ho : w'.ownsRow w0.heap.size 9 1 v' L'.length (L'.map S)) (hat : v'.ownBlock = v1.ownBlock ∨ v'.ownBlock = some w.heap.size) :
    OI3 Go Gi w0 w' ob ib k1 k2 m1 n m2 s v' L' v2 L2 v3 L3 := by
  refine ⟨h.oi.cg hc (fun g hg => (h.ap1 g hg).1) (fun g hg => (h.ap1 g hg).2) (fun g hg => (h.own1.lt g hg).1), ho, own_cg h.own2 hc (fun g a b => h.d12 g b a), own_cg h.own3 hc (fun g a b => h.d13 g b a), fun g hg => ?_, h.ap2, h.ap3, fun g hg hh => ?_, fun g hg hh => ?_, h.d23⟩
  · rcases hat with e | e
    · exact h.ap1 g (by rw [← e]; exact hg)
    · rw [e] at hg; cases hg
      refine ⟨fun hh => ?_, fun hh => ?_⟩
      · have := h.oi.o.dom _ hh; omega
      · have := h.oi.i.dom _ hh; omega
  · rcases hat with e | e
    · exact h.d12 g (by rw [← e]; exact hg) hh
    · rw [e] at hg; cases hg
      have := (h.own2.lt _ hh).2; omega
  · rcases hat with e | e
    · exact h.d13 g (by rw [← e]; exact hg) hh
    · rw [e] at hg; cases hg
      have := (h.own3.lt _ hh).2; omega
theorem Cg.grew {w w' : World} {v : Value} (hg : w.grownBy w' v.ownBlock) : Cg (fun g => v.ownBlock = some g) w w' := ⟨hg.os, hg.tape, hg.output, hg.size, fun k hk hn => hg.block k hk (fun e => hn e.symm)⟩
theorem OI3.push (h : OI3 Go Gi w0 w ob ib k1 k2 m1 n m2 s v1 L1 v2 L2 v3 L3) {w' : World} {v' : Value} {T : List Bs} {q : Nat} {vs : List Value} (ho : w'.ownsRow w0.heap.size 9 1 v' q vs) (hg : w.grownBy w' v1.ownBlock) (hat : v'.ownBlock = v1.ownBlock ∨ v'.ownBlock = some w.heap.size) (hq : q = L1.length + T.length) (hv : vs = L1.map S ++ T.map S) :
    OI3 Go Gi w0 w' ob ib k1 k2 m1 n m2 s v' (L1 ++ T) v2 L2 v3 L3 := by
  subst hq; subst hv
  exact h.chg (Cg.grew hg) (by simpa using ho) hat
end
end Go.Proofs.YticdbilkhkfopaaGreat
