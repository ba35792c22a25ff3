/- Package escutcheonbook: one more list of numbers is kept. -/
import Derived.Test.YtfpepaeoclmcpaaGreatBookGrow2
import Derived.Test.YtfpepaeoclmcpaaGreatBookNil
import Derived.Test.YtfpepaeoclmcpaaGreatRegionG
namespace Go.Proofs.YtfpepaeoclmcpaaGreat
open Go.RowKit Go.Esc
/-- Two values lie in blocks of their own. -/
def Ap (u v : Value) : Prop := ∀ g, u.ownBlock = some g → v.ownBlock ≠ some g
theorem Ap.symm {u v : Value} (h : Ap u v) : Ap v u := fun g hv hu => h g hu hv
theorem Ap.ne {u v : Value} (h : Ap u v) : v.ownBlock = none ∨ v.ownBlock ≠ u.ownBlock := by
  cases hv : v.ownBlock with
  | none => exact .inl rfl
  | some g => exact .inr fun e => h g e.symm hv
theorem Ap.at {u u' v : Value} {w : World} (h : Ap u v) (hat : u'.ownBlock = u.ownBlock ∨ u'.ownBlock = some w.heap.size) (hv : ∀ k, v.ownBlock = some k → k < w.heap.size) : Ap u' v := fun g hu hg => by
  rcases hat with e | e
  · exact h g (e ▸ hu) hg
  · rw [e] at hu; cases hu
    exact Nat.lt_irrefl _ (hv _ hg)
/-- What a book keeps: the lists, and copies of them. -/
structure Kp (w : World) (b : Nat) (v2 v3 : Value) (ss cs : List Value) (ls ks : List (List Int)) : Prop where
  o2 : w.ownsRow (b+1) 34 1 v2 ss.length ss
  o3 : w.ownsRow (b+1) 34 1 v3 cs.length cs
  hl : ss.length = ls.length
  hk : cs.length = ks.length
  s2 : ∀ (j : Nat) (s : Value) (l : List Int), ss[j]? = some s → ls[j]? = some l → w.ownsRow (b+1) 3 1 s l.length (ints l)
  s3 : ∀ (j : Nat) (s : Value) (l : List Int), cs[j]? = some s → ks[j]? = some l → w.ownsRow (b+1) 3 1 s l.length (ints l)
  a23 : Ap v2 v3
  a2s : ∀ s ∈ ss, Ap v2 s ∧ Ap v3 s
  a2c : ∀ s ∈ cs, Ap v2 s ∧ Ap v3 s
  pw : ∀ (i j : Nat) (s t : Value), i ≠ j → ss[i]? = some s → ss[j]? = some t → Ap s t
section
variable {w w' : World} {b : Nat} {v2 v3 : Value} {ss cs : List Value} {ls ks : List (List Int)}
theorem Kp.lt2 (h : Kp w b v2 v3 ss cs ls ks) : ∀ s ∈ ss, ∀ k, s.ownBlock = some k → b + 1 ≤ k ∧ k < w.heap.size := fun s hs k hk => by
  obtain ⟨j, hj⟩ := List.getElem?_of_mem hs
  have hjl := (List.getElem?_eq_some_iff.1 hj).1
  exact (h.s2 j s _ hj (List.getElem?_eq_getElem (by rw [← h.hl]; exact hjl))).lt k hk
theorem Kp.lt3 (h : Kp w b v2 v3 ss cs ls ks) : ∀ s ∈ cs, ∀ k, s.ownBlock = some k → b + 1 ≤ k ∧ k < w.heap.size := fun s hs k hk => by
  obtain ⟨j, hj⟩ := List.getElem?_of_mem hs
  have hjl := (List.getElem?_eq_some_iff.1 hj).1
  exact (h.s3 j s _ hj (List.getElem?_eq_getElem (by rw [← h.hk]; exact hjl))).lt k hk
theorem Kp.grown {row : Option Nat} (h : Kp w b v2 v3 ss cs ls ks) (hg : w.grownBy w' row) (h2 : v2.ownBlock = none ∨ v2.ownBlock ≠ row) (h3 : v3.ownBlock = none ∨ v3.ownBlock ≠ row)
    (hs : ∀ s ∈ ss, s.ownBlock = none ∨ s.ownBlock ≠ row) (hc : ∀ s ∈ cs, s.ownBlock = none ∨ s.ownBlock ≠ row) : Kp w' b v2 v3 ss cs ls ks :=
  ⟨h.o2.kept hg h2, h.o3.kept hg h3, h.hl, h.hk, fun j s l hj hl => (h.s2 j s l hj hl).kept hg (hs s (List.mem_of_getElem? hj)), fun j s l hj hl => (h.s3 j s l hj hl).kept hg (hc s (List.mem_of_getElem? hj)), h.a23, h.a2s, h.a2c, h.pw⟩
theorem Kp.pu (h : Kp w b v2 v3 ss cs ls ks) (hp : Pu w w') : Kp w' b v2 v3 ss cs ls ks :=
  ⟨own_puQ h.o2 hp, own_puQ h.o3 hp, h.hl, h.hk, fun j s l hj hl => own_puQ (h.s2 j s l hj hl) hp, fun j s l hj hl => own_puQ (h.s3 j s l hj hl) hp, h.a23, h.a2s, h.a2c, h.pw⟩
theorem Kp.store (h : Kp w b v2 v3 ss cs ls ks) (o : Nat) (x : Value) : Kp (w.setCell ⟨b, o, none⟩ x) b v2 v3 ss cs ls ks := by
  have hg : w.grownBy (w.setCell ⟨b, o, none⟩ x) (some b) := ⟨rfl, rfl, rfl, by simp, fun k _ hk => Below.heap_setCell _ _ _ _ (fun e => hk (by rw [e]))⟩
  refine h.grown hg (.inr fun e => ?_) (.inr fun e => ?_) (fun s hs => .inr fun e => ?_) (fun s hs => .inr fun e => ?_)
  · have := (h.o2.lt b e).1; omega
  · have := (h.o3.lt b e).1; omega
  · have := (h.lt2 s hs b e).1; omega
  · have := (h.lt3 s hs b e).1; omega
theorem Kp.push2 (h : Kp w b v2 v3 ss cs ls ks) {s v2' : Value} {l : List Int} (hs : w.ownsRow (b+1) 3 1 s l.length (ints l)) (as2 : Ap v2 s) (as3 : Ap v3 s) (ass : ∀ t ∈ ss, Ap t s)
    (ho : w'.ownsRow (b+1) 34 1 v2' (ss.length + 1) (ss ++ [s])) (hg : w.grownBy w' v2.ownBlock) (hat : v2'.ownBlock = v2.ownBlock ∨ v2'.ownBlock = some w.heap.size) : Kp w' b v2' v3 (ss ++ [s]) cs (ls ++ [l]) ks := by
  refine ⟨by simpa using ho, h.o3.kept hg h.a23.ne, by simp [h.hl], h.hk, fun j t m hj hm => ?_, fun j t m hj hm => (h.s3 j t m hj hm).kept hg (h.a2c t (List.mem_of_getElem? hj)).1.ne, h.a23.at hat fun k hk => (h.o3.lt k hk).2, fun t ht => ?_, fun t ht => ⟨(h.a2c t ht).1.at hat fun k hk => (h.lt3 t ht k hk).2, (h.a2c t ht).2⟩, fun i j t u hij ht hu => ?_⟩
  · by_cases hjl : j < ss.length
    · rw [List.getElem?_append_left hjl] at hj
      rw [List.getElem?_append_left (by rw [← h.hl]; exact hjl)] at hm
      exact (h.s2 j t m hj hm).kept hg (h.a2s t (List.mem_of_getElem? hj)).1.ne
    · have hj2 := (List.getElem?_eq_some_iff.1 hj).1
      simp at hj2
      obtain rfl : j = ss.length := by omega
      rw [h.hl] at hm
      simp at hj hm
      subst hj; subst hm
      exact hs.kept hg as2.ne
  · rcases List.mem_append.1 ht with h1 | h1
    · exact ⟨(h.a2s t h1).1.at hat fun k hk => (h.lt2 t h1 k hk).2, (h.a2s t h1).2⟩
    · obtain rfl : t = s := by simpa using h1
      exact ⟨as2.at hat fun k hk => (hs.lt k hk).2, as3⟩
  · have hi2 := (List.getElem?_eq_some_iff.1 ht).1
    have hj2 := (List.getElem?_eq_some_iff.1 hu).1
    simp at hi2 hj2
    by_cases hi : i < ss.length
    · rw [List.getElem?_append_left hi] at ht
      by_cases hj : j < ss.length
      · rw [List.getElem?_append_left hj] at hu
        exact h.pw i j t u hij ht hu
      · obtain rfl : j = ss.length := by omega
        simp at hu; subst hu
        exact ass t (List.mem_of_getElem? ht)
    · obtain rfl : i = ss.length := by omega
      have hj : j < ss.length := by omega
      rw [List.getElem?_append_left hj] at hu
      simp at ht; subst ht
      exact (ass u (List.mem_of_getElem? hu)).symm
theorem Kp.push3 (h : Kp w b v2 v3 ss cs ls ks) {s v3' : Value} {l : List Int} (hs : w.ownsRow (b+1) 3 1 s l.length (ints l)) (as2 : Ap v2 s) (as3 : Ap v3 s)
    (ho : w'.ownsRow (b+1) 34 1 v3' (cs.length + 1) (cs ++ [s])) (hg : w.grownBy w' v3.ownBlock) (hat : v3'.ownBlock = v3.ownBlock ∨ v3'.ownBlock = some w.heap.size) : Kp w' b v2 v3' ss (cs ++ [s]) ls (ks ++ [l]) := by
  refine ⟨h.o2.kept hg h.a23.symm.ne, by simpa using ho, h.hl, by simp [h.hk], fun j t m hj hm => (h.s2 j t m hj hm).kept hg (h.a2s t (List.mem_of_getElem? hj)).2.ne, fun j t m hj hm => ?_, (h.a23.symm.at hat fun k hk => (h.o2.lt k hk).2).symm, fun t ht => ⟨(h.a2s t ht).1, (h.a2s t ht).2.at hat fun k hk => (h.lt2 t ht k hk).2⟩, fun t ht => ?_, h.pw⟩
  · by_cases hjl : j < cs.length
    · rw [List.getElem?_append_left hjl] at hj
      rw [List.getElem?_append_left (by rw [← h.hk]; exact hjl)] at hm
      exact (h.s3 j t m hj hm).kept hg (h.a2c t (List.mem_of_getElem? hj)).2.ne
    · have hj2 := (List.getElem?_eq_some_iff.1 hj).1
      simp at hj2
      obtain rfl : j = cs.length := by omega
      rw [h.hk] at hm
      simp at hj hm
      subst hj; subst hm
      exact hs.kept hg as3.ne
  · rcases List.mem_append.1 ht with h1 | h1
    · exact ⟨(h.a2c t h1).1, (h.a2c t h1).2.at hat fun k hk => (h.lt3 t h1 k hk).2⟩
    · obtain rfl : t = s := by simpa using h1
      exact ⟨as2, as3.at hat fun k hk => (hs.lt k hk).2⟩
end
/-- An append within a drawn region. -/
theorem op_appendR {P : Program} {ops : Array Oper} {Q : Exit → Act → World → Prop} {R : World → Prop} {Φ : Value → World → Prop} {i : Nat} {o : Oper} {a' : Act} {w : World} (ho : ops[i]? = some o) (hg : o.guard = none) (s x : Operand) (t : TypeId)
    (hop : o.op = Op.call { callee := Callee.builtin Builtin.append, args := #[s, x], argTypes := #[t, t] })
    (base : Nat) (e : TypeId) (inf : TypeInfo) (z : Value) (size bytes : Nat) (h1 : P.underlying t = some (.slice e)) (h2 : P.info? e = some inf) (h3 : inf.zero = some z) (h4 : inf.size = size) (h5 : inf.bytes = bytes) (h6 : z.cells.size = size) (h7 : 0 < size)
    (v : Value) (n : Nat) (xs : List Value) (hs : a'.eval s = v) (hown : w.ownsRow base e size v n xs)
    (ad : Addr) (m c : Nat) (news : List Value) (hx : a'.eval x = .slice (some ad) m c) (hn : news.length = m * size) (hc : ∀ j u, news[j]? = some u → w.cell? (ad.add j) = some u) (h1c : ∀ u ∈ news, u.oneCell' = true)
    (b1 : n + m ≤ maxLen) (b2 : (n + m) * bytes ≤ 140737488355328) (hbase : base ≤ w.heap.size) (hd : o.dst.isSome = true)
    (hK : ∀ v' w', w'.ownsRow base e size v' (n + m) (xs ++ news) → w.grownBy w' v.ownBlock → (v'.ownBlock = v.ownBlock ∨ v'.ownBlock = some w.heap.size) → Φ v' w' ∧ R w') :
    wpOp P ops Q i (fun a'' w'' => ∃ v, a'' = a'.put o.dst v ∧ Φ (if o.dst.isSome then v else undef) w'' ∧ R w'') a' w := by
  have hw : Region.wanted o (yielded ops a'.tmps) = true := wanted_none hg
  unfold wpOp
  simp only [ho, hw, if_true]
  refine .inl ?_
  obtain ⟨v', w', hr, hA, hB, _, hD⟩ := run_append_own_at (P := P) w base t o.type e inf z size bytes h1 h2 h3 h4 h5 h6 h7 v n xs hown ad m c news hn hc h1c b1 b2 hbase
  unfold Oper.wp execOp
  simp only [hop, resolve, invoke, builtin, Sem.run_bind, Sem.run_pure, Result.andThen_ok, List.map_toArray, List.map_cons, List.map_nil, hs, hx, hr]
  obtain ⟨q1, q2⟩ := hK v' w' hA hB hD
  exact ⟨v', rfl, by rw [if_pos hd]; exact q1, q2⟩
/-- A copy that is the call's own. -/
def IsRowCp (g B : Nat) (l : List Int) : Value → World → Prop := fun v w => ∃ k cap, v = .slice (some ⟨k, 0, none⟩) l.length cap ∧ g < B ∧ w.ownsRow B 3 1 (.slice (some ⟨k, 0, none⟩) l.length cap) l.length (ints l)
theorem IsRowCp.but {g B : Nat} {l : List Int} {v : Value} {w w' : World} (h : IsRowCp g B l v w) (hp : But g w w') : IsRowCp g B l v w' := by
  obtain ⟨k, cap, hv, hg, ho⟩ := h
  refine ⟨k, cap, hv, hg, ho.kept (row := some g) ⟨hp.os, hp.tape, hp.output, hp.size, fun k hk hne => hp.block k hk (fun e => hne (by rw [e]))⟩ (.inr fun e => ?_)⟩
  have := (ho.lt g e).1
  omega
instance (g B : Nat) (l : List Int) : StableB g (IsRowCp g B l) := ⟨fun _ _ _ h hp => h.but hp⟩
/-- A slice of just such a copy. -/
def IsRowCpS (g B : Nat) (l : List Int) : Value → World → Prop := fun v w => ∃ k cap, v = .slice (some ⟨k, 0, none⟩) 1 cap ∧ ∃ c, Row w k 34 [c] ∧ k ≠ g ∧ IsRowCp g B l c w
instance (g B : Nat) (l : List Int) : StableB g (IsRowCpS g B l) := ⟨fun _ _ _ h hp => by
  obtain ⟨k, cap, hv, c, hr, hk, hc⟩ := h
  exact ⟨k, cap, hv, c, hp.row hr hk, hk, hc.but hp⟩⟩
/-- What stands when the copy is appended. -/
def IsRowMid (b : Nat) (e : TypeId) (n : Nat) (xs : List Value) (v2 : Value) (ss cs : List Value) (ls ks : List (List Int)) : Value → World → Prop := fun v w => ∃ k cap, v = .slice (some ⟨k, 0, none⟩) n cap ∧ ∃ c, Row w b e xs ∧ Kp w b v2 (.slice (some ⟨k, 0, none⟩) n cap) ss (cs ++ [c]) ls ks
instance (b : Nat) (e : TypeId) (n : Nat) (xs : List Value) (v2 : Value) (ss cs : List Value) (ls ks : List (List Int)) : Stable (IsRowMid b e n xs v2 ss cs ls ks) := ⟨fun _ _ _ h hp => by
  obtain ⟨k, cap, hv, c, hr, hk⟩ := h
  exact ⟨k, cap, hv, c, hr.pu hp, hk.pu hp⟩⟩
theorem copyCp (g B : Nat) (v : Value) (l : List Int) (w : World) (h : LI w v l) (h0 : 0 < l.length) (hg : g < B) (hB : B ≤ w.heap.size) :
    Calls Tryz.prog 15 #[v] w fun e w' => ∃ v', e = .returned v' ∧ IsRowCp g B l v' w' ∧ Pu w w' := by
  refine (copyInts v l w h).mono ?_
  rintro e w' ⟨v', rfl, ho, hp⟩
  obtain ⟨k, cap, rfl, hk, _⟩ := own_form ho h0
  refine ⟨_, rfl, ⟨k, cap, rfl, hg, ho.1, ?_⟩, hp⟩
  rcases ho.2 with hn | ⟨g2, cap2, cur, hv, hg2, rest⟩
  · exact .inl hn
  · exact .inr ⟨g2, cap2, cur, hv, by omega, rest⟩
end Go.Proofs.YtfpepaeoclmcpaaGreat
