/- Chapter 13: a list of texts beside an Out and an In; RecordFar. -/
import Derived.Test.YticdbilkhkfopaaGreatT18
namespace Go.Proofs.YticdbilkhkfopaaGreat
open Go.RowKit Go.Esc
/-- An Out, an In, and a list of texts that lies apart. -/
structure OIL (Go Gi : Nat → Prop) (w0 w : World) (ob ib : Nat) (k1 k2 : Bs) (m1 n m2 : Nat) (s : InS) (v : Value) (L : List Bs) : Prop where
  oi : OI Go Gi w0 w ob ib k1 k2 m1 n m2 s
  own : w.ownsRow w0.heap.size 9 1 v L.length (L.map S)
  ap : ∀ g, v.ownBlock = some g → ¬ Go g ∧ ¬ Gi g
section
variable {Go Gi : Nat → Prop} {w0 w : World} {ob ib : Nat} {k1 k2 : Bs} {m1 n m2 : Nat} {s : InS} {v : Value} {L : List Bs}
theorem OIL.pu (h : OIL Go Gi w0 w ob ib k1 k2 m1 n m2 s v L) {w' : World} (hp : Pu w w') : OIL Go Gi w0 w' ob ib k1 k2 m1 n m2 s v L := ⟨h.oi.pu hp, own_pu h.own hp, h.ap⟩
theorem oilSeal (h : OIL Go Gi w0 w ob ib k1 k2 m1 n m2 s v L) (hk : k1.length = 32) (p pp : Bs) (hp : padL p = some pp) (hn : n < 400) (hm : m1 ≤ 100000) (hl : p.length ≤ 140737488351232) :
    Calls Tryz.prog 55 #[.pointer (some ⟨ob, 0, none⟩), S p] w fun e w' => e = .returned (.tuple #[S (recL k1 n p), .int .i64 0]) ∧ OIL (Gw Go w w') Gi w0 w' ob ib k1 k2 (m1+1) (n+1) m2 s v L := by
  refine (oiSeal h.oi hk p pp hp hn hm hl).mono ?_
  rintro e w' ⟨rfl, ho, hc⟩
  refine ⟨rfl, ho, own_cg h.own hc (fun g hg => (h.ap g hg).1), fun g hg => ⟨fun hh => ?_, (h.ap g hg).2⟩⟩
  rcases hh with h1 | h1
  · exact (h.ap g hg).1 h1
  · have := (h.own.lt g hg).2; omega
theorem oilOpen (h : OIL Go Gi w0 w ob ib k1 k2 m1 n m2 s v L) (hk : k2.length = 32) (b : Bs) (hm : m2 ≤ 90000) (hb : b.length ≤ 90000) :
    Calls Tryz.prog 61 #[.pointer (some ⟨ib, 0, none⟩), S b] w fun e w' => ∃ v', e = .returned (.tuple #[v', .int .i64 ((openS k2 s b).1 : Int)]) ∧ w'.ownsRow w.heap.size 9 1 v' (openS k2 s b).2.1.length ((openS k2 s b).2.1.map S) ∧
      OIL Go (fun g => Gw Gi w w' g ∧ v'.ownBlock ≠ some g) w0 w' ob ib k1 k2 m1 n (m2+1) (openS k2 s b).2.2 v L := by
  refine (oiOpen h.oi hk b hm hb).mono ?_
  rintro e w' ⟨v', rfl, ho, hoi, hc⟩
  refine ⟨v', rfl, ho, hoi, own_cg h.own hc (fun g hg => (h.ap g hg).2), fun g hg => ⟨(h.ap g hg).1, fun hh => ?_⟩⟩
  rcases hh.1 with h1 | h1
  · exact (h.ap g hg).2 h1
  · have := (h.own.lt g hg).2; omega
theorem OIL.push (h : OIL Go Gi w0 w ob ib k1 k2 m1 n m2 s v L) {w' : World} {v' : Value} {t : Bs} (ho : w'.ownsRow w0.heap.size 9 1 v' (L.length + 1) (L.map S ++ [S t])) (hg : w.grownBy w' v.ownBlock) (hat : v'.ownBlock = v.ownBlock ∨ v'.ownBlock = some w.heap.size) :
    OIL Go Gi w0 w' ob ib k1 k2 m1 n m2 s v' (L ++ [t]) := by
  have hc : Cg (fun g => v.ownBlock = some g) w w' := ⟨hg.os, hg.tape, hg.output, hg.size, fun k hk hn => hg.block k hk (fun e => hn e.symm)⟩
  refine ⟨h.oi.cg hc (fun g hg => (h.ap g hg).1) (fun g hg => (h.ap g hg).2) (fun g hg => (h.own.lt g hg).1), by simpa using ho, fun g hg => ?_⟩
  rcases hat with e | e
  · exact h.ap g (by rw [← e]; exact hg)
  · rw [e] at hg; cases hg
    refine ⟨fun hh => ?_, fun hh => ?_⟩
    · have := h.oi.o.dom _ hh; omega
    · have := h.oi.i.dom _ hh; omega
end
def xW : Bs := [120]
/-- The records of a text, so many. -/
def recsL (key p : Bs) (n : Nat) : List Bs := (List.range n).map fun k => recL key k p
theorem recsL_succ (key p : Bs) (n : Nat) : recsL key p (n+1) = recsL key p n ++ [recL key n p] := by simp [recsL, List.range_succ]
theorem recsL_length (key p : Bs) (n : Nat) : (recsL key p n).length = n := by simp [recsL]
theorem recsL_at (key p : Bs) (n k : Nat) (h : k < n) : ((recsL key p n).map S)[k]? = some (S (recL key k p)) := by
  simp [recsL, List.getElem?_range h]
end Go.Proofs.YticdbilkhkfopaaGreat
