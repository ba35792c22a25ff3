/- The document's In, in plain Lean: a list of numbers and texts that holds what a map holds. The document's block of the stream. -/
import Derived.Test.YtoakccknimoogaaGreatT14
set_option linter.unusedSimpArgs false
set_option linter.unusedVariables false
namespace Go.Esc
open Go Go.RowKit Go.Proofs.YtoakccknimoogaaGreat
/-- The place of a number; -1. -/
def posV (l : List (Nat × Bs)) (q : Nat) : Int := match l.findIdx? (fun x => x.1 == q) with
 | some i => (i : Int)
 | none => -1
theorem posV_at {l : List (Nat × Bs)} {q k : Nat} (hk : k < l.length) (h : ∀ j (hj : j < k), (l[j]'(Nat.lt_trans hj hk)).1 ≠ q) (he : (l[k]).1 = q) : posV l q = k := by
 unfold posV
 have : l.findIdx? (fun x => x.1 == q) = some k := List.findIdx?_eq_some_iff_getElem.2 ⟨hk, by simpa using he, fun j hj => by simpa using h j hj⟩
 rw [this]
theorem posV_no {l : List (Nat × Bs)} {q : Nat} (h : ∀ j (hj : j < l.length), (l[j]).1 ≠ q) : posV l q = -1 := by
 unfold posV
 have : l.findIdx? (fun x => x.1 == q) = none := by
  rw [List.findIdx?_eq_none_iff]
  intro x hx
  obtain ⟨j, hj, rfl⟩ := List.getElem_of_mem hx
  simpa using h j hj
 rw [this]
/-- The list holds what the map holds. -/
structure Lk (l : List (Nat × Bs)) (f : Nat → Option Bs) : Prop where
 mem : ∀ k t, (k, t) ∈ l ↔ f k = some t
 nd : (l.map Prod.fst).Nodup
theorem Lk.nil : Lk [] (fun _ => none) := ⟨fun k t => by simp, by simp⟩
theorem Lk.none_pos {l : List (Nat × Bs)} {f : Nat → Option Bs} (h : Lk l f) {q : Nat} (hq : f q = none) : posV l q = -1 := posV_no fun j hj e => by
 have h1 := (h.mem (l[j]).1 (l[j]).2).1 (List.getElem_mem hj)
 rw [e, hq] at h1; cases h1
theorem Lk.uniq {l : List (Nat × Bs)} {f : Nat → Option Bs} (h : Lk l f) {i j : Nat} (hi : i < l.length) (hj : j < l.length) (e : (l[i]).1 = (l[j]).1) : i = j := by
 have hp := List.pairwise_iff_getElem.1 h.nd
 rcases Nat.lt_trichotomy i j with h1 | h1 | h1
 · exact absurd (by rw [List.getElem_map, List.getElem_map]; exact e) (hp i j (by simpa using hi) (by simpa using hj) h1)
 · exact h1
 · exact absurd (by rw [List.getElem_map, List.getElem_map]; exact e.symm) (hp j i (by simpa using hj) (by simpa using hi) h1)
theorem Lk.some_pos {l : List (Nat × Bs)} {f : Nat → Option Bs} (h : Lk l f) {q : Nat} {t : Bs} (hq : f q = some t) : ∃ (i : Nat) (hi : i < l.length), posV l q = i ∧ l[i] = (q, t) := by
 obtain ⟨i, hi, he⟩ := List.getElem_of_mem ((h.mem q t).2 hq)
 refine ⟨i, hi, posV_at hi (fun j hj e => ?_) (by rw [he]), he⟩
 have := h.uniq (Nat.lt_trans hj hi) hi (by rw [e, he])
 omega
theorem Lk.add {l : List (Nat × Bs)} {f : Nat → Option Bs} (h : Lk l f) {q : Nat} {t : Bs} (hq : f q = none) : Lk (l ++ [(q, t)]) (updF f q (some t)) := by
 refine ⟨fun k u => ?_, ?_⟩
 · rw [List.mem_append, h.mem, List.mem_singleton]
   unfold updF
   by_cases hk : k = q
   · subst hk
     rw [if_pos rfl, hq]
     constructor
     · rintro (h1 | h1)
       · cases h1
       · cases h1; rfl
     · intro h1; right; simp at h1; rw [h1]
   · rw [if_neg hk]
     constructor
     · rintro (h1 | h1)
       · exact h1
       · cases h1; exact absurd rfl hk
     · exact fun h1 => .inl h1
 · rw [List.map_append, List.nodup_append]
   refine ⟨h.nd, by simp, fun a ha b hb e => ?_⟩
   simp at hb
   obtain ⟨x, hx, rfl⟩ := List.mem_map.1 ha
   have h1 := (h.mem x.1 x.2).1 hx
   rw [e, hb, hq] at h1; cases h1
def cutI (l : List (Nat × Bs)) (i : Nat) : List (Nat × Bs) := l.take i ++ l.drop (i+1)
theorem Lk.del {l : List (Nat × Bs)} {f : Nat → Option Bs} (h : Lk l f) {i : Nat} (hi : i < l.length) : Lk (cutI l i) (updF f (l[i]).1 none) := by
 have hs : l = l.take i ++ l[i] :: l.drop (i+1) := by
  rw [← List.drop_eq_getElem_cons hi]; exact (List.take_append_drop i l).symm
 have hnd := h.nd
 rw [hs, List.map_append, List.map_cons, List.nodup_append] at hnd
 obtain ⟨n1, n2, n3⟩ := hnd
 rw [List.nodup_cons] at n2
 refine ⟨fun k u => ?_, ?_⟩
 · unfold updF cutI
   rw [List.mem_append]
   by_cases hk : k = (l[i]).1
   · rw [if_pos hk]
     refine ⟨fun h1 => ?_, fun h1 => by cases h1⟩
     rcases h1 with h1 | h1
     · exact absurd hk (n3 k (List.mem_map.2 ⟨_, h1, rfl⟩) _ (by simp))
     · exact absurd (List.mem_map.2 ⟨_, h1, hk⟩) n2.1
   · rw [if_neg hk, ← h.mem k u]
     constructor
     · intro h1
       rw [hs, List.mem_append, List.mem_cons]
       rcases h1 with h1 | h1
       · exact .inl h1
       · exact .inr (.inr h1)
     · intro h1
       rw [hs, List.mem_append, List.mem_cons] at h1
       rcases h1 with h1 | h1 | h1
       · exact .inl h1
       · exact absurd (by rw [← h1]) hk
       · exact .inr h1
 · unfold cutI
   rw [List.map_append, List.nodup_append]
   exact ⟨n1, n2.2, fun a ha b hb => n3 a ha b (List.mem_cons_of_mem _ hb)⟩
theorem cutI_length {l : List (Nat × Bs)} {i : Nat} (hi : i < l.length) : (cutI l i).length = l.length - 1 := by
 unfold cutI; simp; omega
theorem updF_cut (f : Nat → Option Bs) (n : Nat) : updF (cutF f n) n none = cutF f (n+1) := by
 funext k
 unfold updF cutF
 by_cases h : k = n
 · rw [if_pos h, if_pos (by omega)]
 · rw [if_neg h]
   by_cases h2 : k < n
   · rw [if_pos h2, if_pos (by omega)]
   · rw [if_neg h2, if_neg (by omega)]
def seqV (l : List (Nat × Bs)) : List Value := l.map fun x => .int .i64 (x.1 : Int)
def txtV (l : List (Nat × Bs)) : List Value := l.map fun x => S x.2
theorem seqV_length (l : List (Nat × Bs)) : (seqV l).length = l.length := by simp [seqV]
theorem txtV_length (l : List (Nat × Bs)) : (txtV l).length = l.length := by simp [txtV]
end Go.Esc
set_option linter.unusedSimpArgs false
set_option linter.unusedVariables false
namespace Go.Esc
open Go Go.RowKit
/-- A list's first n+1. -/
theorem take_snoc {α : Type} (l : List α) (n : Nat) (h : n < l.length) : l.take (n+1) = l.take n ++ [l[n]] := List.take_succ_eq_append_getElem h
end Go.Esc
namespace Go.Proofs.YtoakccknimoogaaGreat
open Go.RowKit Go.Esc
theorem vs_snoc (s : List Wd) (n : Nat) (h : n < s.length) : vs (s.take n) ++ [V (s.getD n 0)] = vs (s.take (n+1)) := by
 rw [take_snoc s n h]
 simp only [vs, List.map_append, List.map_cons, List.map_nil]
 rw [List.getD_eq_getElem?_getD, List.getElem?_eq_getElem h]; rfl
theorem one_cell {w1 : World} {g : Nat} {v : Value} {e : TypeId} (hg : w1.heap.size = g) : ∀ j u, [v][j]? = some u → (w1.alloc (.cells #[v] e)).cell? ((⟨g, 0, none⟩ : Addr).add j) = some u := by
 intro j u hj
 match j, hj with
 | 0, hj =>
   simp at hj; subst hj
   have := (Row.newAt w1 g #[v] e (xs := [v]) hg rfl).cell 0 (by simp)
   rw [show (⟨g, 0, none⟩ : Addr).add 0 = ⟨g, 0, none⟩ by simp [Addr.add]]
   exact this
/-- where the places lie -/
def outerL (b : Nat) : List Value := (List.range 8).map fun k => .slice (some ⟨b + k, 0, none⟩) 4 4
structure PlacesAt (w : World) (b : Nat) : Prop where
 outer : Row w (b + 8) 30 (outerL b)
 inner : ∀ k, k < 8 → Row w (b + k) 3 (pcells (place k))
theorem PlacesAt.pu {w w' : World} {b : Nat} (h : PlacesAt w b) (hp : Pu w w') : PlacesAt w' b := ⟨h.outer.pu hp, fun k hk => (h.inner k hk).pu hp⟩
theorem PlacesAt.but {w w' : World} {b g : Nat} (h : PlacesAt w b) (hp : But g w w') (hg : g < b) : PlacesAt w' b := ⟨hp.row h.outer (by omega), fun k hk => hp.row (h.inner k hk) (by omega)⟩
theorem PlacesAt.cell {w : World} {b : Nat} (h : PlacesAt w b) (k : Nat) (hk : k < 8) : w.cell? ⟨b + 8, k, none⟩ = some (.slice (some ⟨b + k, 0, none⟩) 4 4) := by
 rw [h.outer.cell' k (by simp [outerL]; omega)]
 simp [outerL, hk]
def plArr (k : Nat) : Obj := .cells (pcells (place k)).toArray 3
theorem places_at (w : World) :
 PlacesAt (((((((((w.alloc (plArr 0)).alloc (plArr 1)).alloc (plArr 2)).alloc (plArr 3)).alloc (plArr 4)).alloc (plArr 5)).alloc (plArr 6)).alloc (plArr 7)).alloc (.cells (outerL w.heap.size).toArray 30)) w.heap.size := by
 refine ⟨Row.newAt _ _ _ _ (by simp) rfl, fun k hk => ?_⟩
 rcases (by omega : k = 0 ∨ k = 1 ∨ k = 2 ∨ k = 3 ∨ k = 4 ∨ k = 5 ∨ k = 6 ∨ k = 7) with rfl | rfl | rfl | rfl | rfl | rfl | rfl | rfl
 · exact ((((((((Row.newAt _ _ _ _ (by simp) rfl).alloc _).alloc _).alloc _).alloc _).alloc _).alloc _).alloc _).alloc _
 · exact (((((((Row.newAt _ _ _ _ (by simp) rfl).alloc _).alloc _).alloc _).alloc _).alloc _).alloc _).alloc _
 · exact ((((((Row.newAt _ _ _ _ (by simp) rfl).alloc _).alloc _).alloc _).alloc _).alloc _).alloc _
 · exact (((((Row.newAt _ _ _ _ (by simp) rfl).alloc _).alloc _).alloc _).alloc _).alloc _
 · exact ((((Row.newAt _ _ _ _ (by simp) rfl).alloc _).alloc _).alloc _).alloc _
 · exact (((Row.newAt _ _ _ _ (by simp) rfl).alloc _).alloc _).alloc _
 · exact ((Row.newAt _ _ _ _ (by simp) rfl).alloc _).alloc _
 · exact (Row.newAt _ _ _ _ (by simp) rfl).alloc _
set_option maxRecDepth 100000 in
set_option maxHeartbeats 3200000 in
theorem refBlock (key nonce : Bs) (ctr : Nat) (hk : key.length = 32) (hn : nonce.length = 12) (hc : ctr < 4294967296) (w : World) :
 Calls Tryz.prog 81 #[S key, .int .u32 (ctr : Int), S nonce] w fun e w' => e = .returned (S (blockL key ctr nonce)) ∧ Pu w w' := by
 obtain ⟨ii, hi, hz0, hz1, hz2⟩ := info_parts infoW
 obtain ⟨s, hs⟩ : ∃ s, s = initC key ctr nonce := ⟨_, rfl⟩
 have hsr : s = refInit key ctr nonce := by rw [hs, refInit_eq key ctr nonce hk hn hc]
 have hsl : s.length = 16 := by rw [hs, initC_length]
 have hs4 : vs (s.take 4) = [.int .u32 1634760805, .int .u32 857760878, .int .u32 2036477234, .int .u32 1797285236] := by rw [hsr]; rfl
 have hsk : ∀ k, k < 8 → s.getD (4 + k) 0 = wordL key k := by
  intro k hk; rw [hsr]
  rcases (by omega : k = 0 ∨ k = 1 ∨ k = 2 ∨ k = 3 ∨ k = 4 ∨ k = 5 ∨ k = 6 ∨ k = 7) with rfl | rfl | rfl | rfl | rfl | rfl | rfl | rfl <;> rfl
 have hsc : s.getD 12 0 = BitVec.ofNat 32 ctr := by rw [hsr]; rfl
 have hsn : ∀ k, k < 3 → s.getD (13 + k) 0 = wordL nonce k := by
  intro k hk; rw [hsr]
  rcases (by omega : k = 0 ∨ k = 1 ∨ k = 2) with rfl | rfl | rfl <;> rfl
 have hcv : (ctr : Int) = wd (BitVec.ofNat 32 ctr) := by simp [wd]; omega
 have hfin : blockL key ctr nonce = outC (qrun s 80) s 16 := by rw [hs]; rfl
 have HSK := Lib.hid hsk
 have HSN := Lib.hid hsn
 have HSC := Lib.hid hsc
 have HF := Lib.hid hfin
 have HS4 := Lib.hid hs4
 have HCV := Lib.hid hcv
 clear hs hsr hs4 hsk hsc hsn hcv hfin
 go_enter Tryz.func81, Tryz.ntmps81
 go_wp2_with fail
 go_loopw [7, 8] (fun v i wr => ∃ (k g cap : Nat), k ≤ 8 ∧ v = .slice (some ⟨g, 0, none⟩) (4 + k) cap ∧ i = .int .i64 (k : Int) ∧ wr.ownsRow w.heap.size 108 1 (.slice (some ⟨g, 0, none⟩) (4 + k) cap) (4 + k) (vs (s.take (4 + k))) ∧ Below w.heap.size w wr) (fun _ i _ => 8 - (intOf i).toNat)
 case atStart => exact ⟨0, _, _, by omega, rfl, rfl, by rw [HS4.out]; exact World.ownsRow_lit _ _ _ (Nat.le_refl _) (by unfold maxLen; omega) rfl, (Pu.refl w).alloc _⟩
 case round =>
  obtain ⟨k, g, cap, hk8, rfl, rfl, hown, hbel⟩ := hrel
  by_cases hlt : k < 8
  · have hli := fun w => refLittle ((key.take (4 * k + 4)).drop (4 * k)) w (by simp; omega)
    have hwd : BitVec.ofNat 32 (leN ((key.take (4 * k + 4)).drop (4 * k))) = wordL key k := by rw [wordL, word_of]
    obtain ⟨y, hy⟩ : ∃ y, y = leN ((key.take (4 * k + 4)).drop (4 * k)) := ⟨_, rfl⟩
    rw [← hy] at hli hwd
    have hsnoc := vs_snoc s (4 + k) (by omega)
    rw [HSK.out k hlt, ← hwd] at hsnoc
    have HB := Lib.hid hli
    have HWD := Lib.hid hwd
    have HSNOC := Lib.hid hsnoc
    have hs1 : (4 : Int) * k ≤ 4 * k + 4 := by omega
    have hs2 : (4 : Int) * k + 4 ≤ key.length := by omega
    have hs0 : (0 : Int) ≤ 4 * k := by omega
    have hs5 : (0 : Int) ≤ 4 * k + 4 := by omega
    have hs6 : (0 : Int) ≤ k := by omega
    have hs3 : ((4 : Int) * k).toNat = 4 * k := by omega
    have hs4' : ((4 : Int) * k + 4).toNat = 4 * k + 4 := by omega
    have hbw := hbel.size
    have HK := Lib.hid hk
    clear hk hli hwd hsnoc hy
    go_wp2_with (first
     | (go_at_call 127; refine (HB.out _).mono ?_; rintro e w2 ⟨rfl, hw2⟩; subst w2)
     | (refine wpList_append_mine rfl (.tmp 22) (.tmp 32) 181 rfl w.heap.size 108 ii (.int .u32 0) 1 4 Tryz.underlying181 hi hz0 hz1 hz2 rfl (by decide) (.slice (some ⟨g, 0, none⟩) (4 + k) cap) (4 + k) (vs (s.take (4 + k))) (by rfl) (hown.alloc _) ⟨wr.heap.size, 0, none⟩ 1 1 [V (BitVec.ofNat 32 y)] (by rfl) rfl (one_cell rfl) (by simp [Value.oneCell']) (by unfold maxLen; omega) (by omega) (by simp; omega) ?_; intro v2 w2 hown2 hgrow2))
    obtain ⟨g2, cap2, rfl, hg2, hg2'⟩ := own_form hown2 (by omega)
    have hgb := (hown.lt g rfl).1
    rw [HSNOC.out] at hown2
    go_roundw
    case rel => exact ⟨k + 1, g2, cap2, by omega, rfl, by go_num, hown2, (hbel.alloc hbw _).grown hgrow2 (by simp; omega) (by intro j hj; simp [Value.ownBlock] at hj; omega)⟩
    case measure => simp [intOf]; omega
  · obtain rfl : k = 8 := by omega
    have hgb := (hown.lt g rfl).1
    have hbw := hbel.size
    have hsnoc := vs_snoc s (4 + 8) (by omega)
    rw [show s.getD (4 + 8) 0 = _ from HSC.out] at hsnoc
    have HSNOC := Lib.hid hsnoc
    have hcv := HCV.out
    clear hsnoc
    rw [hcv]
    clear hcv
    go_wp2_with (refine wpList_append_mine rfl (.tmp 34) (.tmp 36) 181 rfl w.heap.size 108 ii (.int .u32 0) 1 4 Tryz.underlying181 hi hz0 hz1 hz2 rfl (by decide) (.slice (some ⟨g, 0, none⟩) (4 + 8) cap) (4 + 8) (vs (s.take (4 + 8))) (by rfl) (hown.alloc _) ⟨wr.heap.size, 0, none⟩ 1 1 [V (BitVec.ofNat 32 ctr)] (by rfl) rfl (one_cell rfl) (by simp [Value.oneCell']) (by unfold maxLen; omega) (by omega) (by simp; omega) ?_; intro v2 w2 hown2 hgrow2)
    obtain ⟨g2, cap2, rfl, hg2, hg2'⟩ := own_form hown2 (by omega)
    rw [HSNOC.out] at hown2
    replace hbel := (hbel.alloc hbw _).grown hgrow2 (by simp; omega) (by intro j hj; simp [Value.ownBlock] at hj; omega)
    clear hgrow2 hown HSNOC hgb hbw
    go_loopw [7, 9] (fun v i wq => ∃ (k g cap : Nat), k ≤ 3 ∧ v = .slice (some ⟨g, 0, none⟩) (13 + k) cap ∧ i = .int .i64 (k : Int) ∧ wq.ownsRow w.heap.size 108 1 (.slice (some ⟨g, 0, none⟩) (13 + k) cap) (13 + k) (vs (s.take (13 + k))) ∧ Below w.heap.size w wq) (fun _ i _ => 3 - (intOf i).toNat)
    case atStart => exact ⟨0, g2, cap2, by omega, rfl, rfl, hown2, hbel⟩
    case round =>
     clear hown2 hbel hg2 hg2'
     obtain ⟨k, g3, cap3, hk3, rfl, rfl, hown, hbel⟩ := hrel
     by_cases hlt : k < 3
     · have hli := fun w => refLittle ((nonce.take (4 * k + 4)).drop (4 * k)) w (by simp; omega)
       have hwd : BitVec.ofNat 32 (leN ((nonce.take (4 * k + 4)).drop (4 * k))) = wordL nonce k := by rw [wordL, word_of]
       obtain ⟨y, hy⟩ : ∃ y, y = leN ((nonce.take (4 * k + 4)).drop (4 * k)) := ⟨_, rfl⟩
       rw [← hy] at hli hwd
       have hsnoc := vs_snoc s (13 + k) (by omega)
       rw [HSN.out k hlt, ← hwd] at hsnoc
       have HB := Lib.hid hli
       have HWD := Lib.hid hwd
       have HSNOC := Lib.hid hsnoc
       have hs1 : (4 : Int) * k ≤ 4 * k + 4 := by omega
       have hs2 : (4 : Int) * k + 4 ≤ nonce.length := by omega
       have hs0 : (0 : Int) ≤ 4 * k := by omega
       have hs5 : (0 : Int) ≤ 4 * k + 4 := by omega
       have hs6 : (0 : Int) ≤ k := by omega
       have hs3 : ((4 : Int) * k).toNat = 4 * k := by omega
       have hs4' : ((4 : Int) * k + 4).toNat = 4 * k + 4 := by omega
       have hbw := hbel.size
       have HN := Lib.hid hn
       clear hn hli hwd hsnoc hy
       go_wp2_with (first
        | (go_at_call 127; refine (HB.out _).mono ?_; rintro e w3 ⟨rfl, hw3⟩; subst w3)
        | (refine wpList_append_mine rfl (.tmp 42) (.tmp 52) 181 rfl w.heap.size 108 ii (.int .u32 0) 1 4 Tryz.underlying181 hi hz0 hz1 hz2 rfl (by decide) (.slice (some ⟨g3, 0, none⟩) (13 + k) cap3) (13 + k) (vs (s.take (13 + k))) (by rfl) (hown.alloc _) ⟨wr.heap.size, 0, none⟩ 1 1 [V (BitVec.ofNat 32 y)] (by rfl) rfl (one_cell rfl) (by simp [Value.oneCell']) (by unfold maxLen; omega) (by omega) (by simp; omega) ?_; intro v2 w3 hown2 hgrow2))
       obtain ⟨g2, cap2, rfl, hg2, hg2'⟩ := own_form hown2 (by omega)
       have hgb := (hown.lt g3 rfl).1
       rw [HSNOC.out] at hown2
       go_roundw
       case rel =>
        have hb5 := (hbel.alloc hbw _).grown hgrow2 (by simp; omega) (by intro j hj; simp [Value.ownBlock] at hj; omega)
        (repeat apply Exists.intro)
        exact ⟨⟨k + 1, g2, cap2, by omega, rfl, by go_num, hown2, hb5⟩, rfl⟩
       case measure => simp [intOf]; omega
     · obtain rfl : k = 3 := by omega
       rw [show s.take (13 + 3) = s from List.take_of_length_le (by omega)] at hown
       have hrs := Row.own hown
       obtain ⟨hgb, hgl⟩ := hown.lt g3 rfl
       have hbw := hbel.size
       clear hown hk3 hlt
       have hsc := hrs.cell'
       have HSCC := Lib.hid hsc
       clear hsc
       go_wp2_with (refine wpList_append_mine rfl (.const (.slice none 0 0)) (.tmp 54) 181 rfl wr.heap.size 108 ii (.int .u32 0) 1 4 Tryz.underlying181 hi hz0 hz1 hz2 rfl (by decide) (.slice none 0 0) 0 [] (by rfl) (World.ownsRow_nil _ _ _ _) ⟨g3, 0, none⟩ 16 cap3 (vs s) (by rfl) (by rw [vs_length]; omega) (by intro j u hj; have := HSCC.out j (List.getElem?_eq_some_iff.1 hj).1; rw [show (⟨g3, 0, none⟩ : Addr).add j = ⟨g3, j, none⟩ by unfold Addr.add; split <;> simp_all, this]; exact hj) (by simp [vs, Value.oneCell']) (by unfold maxLen; omega) (by omega) (Nat.le_refl _) ?_; intro v2 w3 hown2 hgrow2)
       obtain ⟨gx, capx, rfl, hgx, hgx'⟩ := own_form hown2 (by omega)
       rw [List.nil_append] at hown2
       have hrx := Row.own hown2
       have hpu3 : Pu wr w3 := ⟨hgrow2.os, hgrow2.tape, hgrow2.output, hgrow2.size, fun j hj => hgrow2.block j hj (by simp [Value.ownBlock])⟩
       replace hrs := hrs.pu hpu3
       replace hbel := hbel.trans (Below.mono hpu3 hbw)
       have hgx0 : g3 < gx := by omega
       clear hown2 hgrow2 hpu3 hgx hgl
       have hA : ∀ {e : TypeId} {g : Nat} {xs : List Value}, Row w3 g e xs → Row (((((((((w3.alloc (plArr 0)).alloc (plArr 1)).alloc (plArr 2)).alloc (plArr 3)).alloc (plArr 4)).alloc (plArr 5)).alloc (plArr 6)).alloc (plArr 7)).alloc (.cells (outerL w3.heap.size).toArray 30)) g e xs :=
        fun h => ((((((((h.alloc _).alloc _).alloc _).alloc _).alloc _).alloc _).alloc _).alloc _).alloc _
       have hB : Below w.heap.size w (((((((((w3.alloc (plArr 0)).alloc (plArr 1)).alloc (plArr 2)).alloc (plArr 3)).alloc (plArr 4)).alloc (plArr 5)).alloc (plArr 6)).alloc (plArr 7)).alloc (.cells (outerL w3.heap.size).toArray 30)) :=
        Pu.alloc (Pu.alloc (Pu.alloc (Pu.alloc (Pu.alloc (Pu.alloc (Pu.alloc (Pu.alloc (Pu.alloc hbel _) _) _) _) _) _) _) _) _
       have hpl := places_at w3
       replace hrs := hA hrs
       replace hrx := hA hrx
       have hbw3 := hbel.size
       clear hA hbel
       obtain ⟨b0, hb0⟩ : ∃ b, b = w3.heap.size := ⟨_, rfl⟩
       have hgxb : gx < b0 := by omega
       go_loopw [12] (fun i wq => ∃ n : Nat, n ≤ 10 ∧ i = .int .i64 (n : Int) ∧ Row wq g3 108 (vs s) ∧ Row wq gx 108 (vs (qrun s (8 * n))) ∧ PlacesAt wq b0 ∧ Below w.heap.size w wq) (fun i _ => 10 - (intOf i).toNat)
       case atStart => exact ⟨0, by omega, rfl, hrs, hrx, by rw [hb0]; exact hpl, hB⟩
       case round =>
        clear hrs hrx hpl hB
        obtain ⟨n, hn10, rfl, hrs, hrx, hpl, hbel⟩ := hrel
        have e8 : w3.heap.size + 1 + 1 + 1 + 1 + 1 + 1 + 1 + 1 = b0 + 8 := by omega
        rw [e8]
        clear e8 hb0
        by_cases hlt : n < 10
        · go_wp2_with fail
          go_loopw [13] (fun i wz => ∃ k : Nat, k ≤ 8 ∧ i = .int .i64 (k : Int) ∧ Row wz g3 108 (vs s) ∧ Row wz gx 108 (vs (qrun s (8 * n + k))) ∧ PlacesAt wz b0 ∧ Below w.heap.size w wz) (fun i _ => 8 - (intOf i).toNat)
          case atStart => exact ⟨0, by omega, rfl, hrs, hrx, hpl, hbel⟩
          case round =>
           clear hrs hrx hpl hbel
           obtain ⟨k, hk8, rfl, hrs, hrx, hpl, hbel⟩ := hrel
           by_cases hkt : k < 8
           · have hcp := hpl.cell k hkt
             have hin := hpl.inner k hkt
             obtain ⟨p, hp⟩ : ∃ p, p = place k := ⟨_, rfl⟩
             obtain ⟨hpa, hpb, hpc, hpd⟩ := place_lt k hkt
             have hmod : (8 * n + k) % 8 = k := by omega
             have hq : qrun s (8 * n + k + 1) = qAt (qrun s (8 * n + k)) p := by
              show qAt (qrun s (8 * n + k)) (place ((8 * n + k) % 8)) = _
              rw [hmod, hp]
             have hxl := qrun_length s (8 * n + k)
             rw [hsl] at hxl
             obtain ⟨x, hx⟩ : ∃ x, x = qrun s (8 * n + k) := ⟨_, rfl⟩
             rw [← hp] at hin hpa hpb hpc hpd
             rw [← hx] at hq hrx hxl
             have HQ := Lib.hid hq
             have HX := Lib.hid hx
             have hk0 : (0 : Int) ≤ k := by omega
             have hk1 : (k : Int) < 8 := by omega
             clear hq hx hp hmod
             go_wp2_with fail
             obtain ⟨xa, hxa⟩ : ∃ v, v = x.getD p.a 0 := ⟨_, rfl⟩
             obtain ⟨xb, hxb⟩ : ∃ v, v = x.getD p.b 0 := ⟨_, rfl⟩
             obtain ⟨xc, hxc⟩ : ∃ v, v = x.getD p.c 0 := ⟨_, rfl⟩
             obtain ⟨xd, hxd⟩ : ∃ v, v = x.getD p.d 0 := ⟨_, rfl⟩
             obtain ⟨q, hq⟩ : ∃ q, q = quarter xa xb xc xd := ⟨_, rfl⟩
             have hqu := fun w => refQuart xa xb xc xd w
             rw [← hq] at hqu
             have hqf : qpart x p q 4 = qrun s (8 * n + k + 1) := by rw [HQ.out, qAt, ← hxa, ← hxb, ← hxc, ← hxd, ← hq]; rfl
             have HXA := Lib.hid hxa
             have HXB := Lib.hid hxb
             have HXC := Lib.hid hxc
             have HXD := Lib.hid hxd
             have HQU := Lib.hid hqu
             have HQF := Lib.hid hqf
             have hc1 : ∀ args w, (callFunc 128 args).run Tryz.prog w = .ok (.enter 128 args) w := fun args w => run_callFunc_body Tryz.func128 (by kernel_rfl) (by kernel_rfl) args w
             have ia0 : (0 : Int) ≤ p.a := by omega
             have ia1 : (p.a : Int) < 16 := by omega
             have ib0 : (0 : Int) ≤ p.b := by omega
             have ib1 : (p.b : Int) < 16 := by omega
             have ic0 : (0 : Int) ≤ p.c := by omega
             have ic1 : (p.c : Int) < 16 := by omega
             have id0 : (0 : Int) ≤ p.d := by omega
             have id1 : (p.d : Int) < 16 := by omega
             have hne : b0 + k ≠ gx := by omega
             clear hxa hxb hxc hxd hq hqu hqf hcp
             apply region_chain (g := gx) (chain := [47, 49, 51, 53]) (C := (fun n w' => Row w' gx 108 (vs (qpart x p q n)))) (Φs := (Is _ :: Is _ :: Is _ :: Is _ :: Is _ :: Is _ :: Is _ :: Is _ :: Is _ :: Is _ :: Is _ :: Is _ :: Is _ :: Is _ :: Is _ :: Is _ :: Is _ :: Is _ :: Is _ :: Is _ :: Is _ :: Is _ :: Is _ :: Is _ :: Is _ :: Is _ :: Is _ :: Is _ :: Is _ :: Is _ :: Is _ :: Is _ :: Is _ :: Is _ :: Is _ :: Is _ :: Is _ :: Is _ :: Is _ :: Is _ :: Is _ :: Is _ :: Is _ :: Is _ :: Is _ :: Is _ :: Is _ :: Is _ :: Is _ :: Is _ :: Is _ :: Is _ :: Is _ :: Is _ :: [])) (hm := by kernel_rfl) (hE := by kernel_rfl) (hD := by kernel_rfl) (hup := by kernel_rfl) (hch := by kernel_rfl) (hsize := by kernel_rfl)
             case hC =>
              intro s a b h hp
              exact Row.pu h hp
             case hC0 =>
              exact hrx
             case hop =>
              refine ⟨?_, ?_, ?_, ?_, ?_, ?_, ?_, ?_, ?_, ?_, ?_, ?_, ?_, ?_, ?_, ?_, ?_, ?_, ?_, ?_, ?_, ?_, ?_, ?_, ?_, ?_, ?_, ?_, ?_, ?_, ?_, ?_, ?_, ?_, ?_, ?_, ?_, ?_, ?_, ?_, ?_, ?_, ?_, ?_, ?_, ?_, ?_, ?_, ?_, ?_, ?_, ?_, ?_, ?_, trivial⟩
              · intro a' w' s hs hp hC hlo hhi he
                rw [if_neg (by decide)]
                clear hlo hhi
                have e10 := hs 10 (by kernel_rfl)
                try simp [Is, Region.binds] at he
                exact op_v
              · intro a' w' s hs hp hC hlo hhi he
                rw [if_neg (by decide)]
                clear hlo hhi
                have e14 := hs 14 (by kernel_rfl)
                try simp [Is, Region.binds] at he
                exact op_v
              · intro a' w' s hs hp hC hlo hhi he
                rw [if_neg (by decide)]
                clear hlo hhi
                try simp [Is, Region.binds] at he
                exact op_v
              · intro a' w' s hs hp hC hlo hhi he
                rw [if_neg (by decide)]
                clear hlo hhi
                try simp [Is, Region.binds] at he
                obtain ⟨c0, c1, c2, c3⟩ := Row.p4 (hp.row hin hne); exact op_val rfl (wanted_none rfl) (by first | (go_simp; done) | (go_simp; rfl)) rfl (Pu.refl _)
              · intro a' w' s hs hp hC hlo hhi he
                rw [if_neg (by decide)]
                clear hlo hhi
                have e10 := hs 10 (by kernel_rfl)
                try simp [Is, Region.binds] at he
                exact op_v
              · intro a' w' s hs hp hC hlo hhi he
                rw [if_neg (by decide)]
                clear hlo hhi
                have e14 := hs 14 (by kernel_rfl)
                try simp [Is, Region.binds] at he
                exact op_v
              · intro a' w' s hs hp hC hlo hhi he
                rw [if_neg (by decide)]
                clear hlo hhi
                try simp [Is, Region.binds] at he
                exact op_v
              · intro a' w' s hs hp hC hlo hhi he
                rw [if_neg (by decide)]
                clear hlo hhi
                try simp [Is, Region.binds] at he
                obtain ⟨c0, c1, c2, c3⟩ := Row.p4 (hp.row hin hne); exact op_val rfl (wanted_none rfl) (by first | (go_simp; done) | (go_simp; rfl)) rfl (Pu.refl _)
              · intro a' w' s hs hp hC hlo hhi he
                rw [if_neg (by decide)]
                clear hlo hhi
                have e10 := hs 10 (by kernel_rfl)
                try simp [Is, Region.binds] at he
                exact op_v
              · intro a' w' s hs hp hC hlo hhi he
                rw [if_neg (by decide)]
                clear hlo hhi
                have e14 := hs 14 (by kernel_rfl)
                try simp [Is, Region.binds] at he
                exact op_v
              · intro a' w' s hs hp hC hlo hhi he
                rw [if_neg (by decide)]
                clear hlo hhi
                try simp [Is, Region.binds] at he
                exact op_v
              · intro a' w' s hs hp hC hlo hhi he
                rw [if_neg (by decide)]
                clear hlo hhi
                try simp [Is, Region.binds] at he
                obtain ⟨c0, c1, c2, c3⟩ := Row.p4 (hp.row hin hne); exact op_val rfl (wanted_none rfl) (by first | (go_simp; done) | (go_simp; rfl)) rfl (Pu.refl _)
              · intro a' w' s hs hp hC hlo hhi he
                rw [if_neg (by decide)]
                clear hlo hhi
                have e10 := hs 10 (by kernel_rfl)
                try simp [Is, Region.binds] at he
                exact op_v
              · intro a' w' s hs hp hC hlo hhi he
                rw [if_neg (by decide)]
                clear hlo hhi
                have e14 := hs 14 (by kernel_rfl)
                try simp [Is, Region.binds] at he
                exact op_v
              · intro a' w' s hs hp hC hlo hhi he
                rw [if_neg (by decide)]
                clear hlo hhi
                try simp [Is, Region.binds] at he
                exact op_v
              · intro a' w' s hs hp hC hlo hhi he
                rw [if_neg (by decide)]
                clear hlo hhi
                try simp [Is, Region.binds] at he
                obtain ⟨c0, c1, c2, c3⟩ := Row.p4 (hp.row hin hne); exact op_val rfl (wanted_none rfl) (by first | (go_simp; done) | (go_simp; rfl)) rfl (Pu.refl _)
              · intro a' w' s hs hp hC hlo hhi he
                rw [if_neg (by decide)]
                clear hlo hhi
                have e10 := hs 10 (by kernel_rfl)
                try simp [Is, Region.binds] at he
                exact op_v
              · intro a' w' s hs hp hC hlo hhi he
                rw [if_neg (by decide)]
                clear hlo hhi
                have e14 := hs 14 (by kernel_rfl)
                try simp [Is, Region.binds] at he
                exact op_v
              · intro a' w' s hs hp hC hlo hhi he
                rw [if_neg (by decide)]
                clear hlo hhi
                try simp [Is, Region.binds] at he
                exact op_v
              · intro a' w' s hs hp hC hlo hhi he
                rw [if_neg (by decide)]
                clear hlo hhi
                try simp [Is, Region.binds] at he
                obtain ⟨c0, c1, c2, c3⟩ := Row.p4 (hp.row hin hne); exact op_val rfl (wanted_none rfl) (by first | (go_simp; done) | (go_simp; rfl)) rfl (Pu.refl _)
              · intro a' w' s hs hp hC hlo hhi he
                rw [if_neg (by decide)]
                clear hlo hhi
                try simp [Is, Region.binds] at he
                exact op_v
              · intro a' w' s hs hp hC hlo hhi he
                rw [if_neg (by decide)]
                have hs0 : s = 0 := Nat.le_zero.1 (Nat.le_trans hhi (Nat.le_of_eq (by kernel_rfl)))
                subst hs0
                clear hlo hhi
                try simp [Is, Region.binds] at he
                have c := Row.word (l := x) hC p.a (by omega); rw [← HXA.out] at c; exact op_val rfl (wanted_none rfl) (by first | (go_simp; done) | (go_simp; rfl)) rfl (Pu.refl _)
              · intro a' w' s hs hp hC hlo hhi he
                rw [if_neg (by decide)]
                clear hlo hhi
                have e10 := hs 10 (by kernel_rfl)
                try simp [Is, Region.binds] at he
                exact op_v
              · intro a' w' s hs hp hC hlo hhi he
                rw [if_neg (by decide)]
                clear hlo hhi
                have e14 := hs 14 (by kernel_rfl)
                try simp [Is, Region.binds] at he
                exact op_v
              · intro a' w' s hs hp hC hlo hhi he
                rw [if_neg (by decide)]
                clear hlo hhi
                try simp [Is, Region.binds] at he
                exact op_v
              · intro a' w' s hs hp hC hlo hhi he
                rw [if_neg (by decide)]
                clear hlo hhi
                try simp [Is, Region.binds] at he
                obtain ⟨c0, c1, c2, c3⟩ := Row.p4 (hp.row hin hne); exact op_val rfl (wanted_none rfl) (by first | (go_simp; done) | (go_simp; rfl)) rfl (Pu.refl _)
              · intro a' w' s hs hp hC hlo hhi he
                rw [if_neg (by decide)]
                clear hlo hhi
                try simp [Is, Region.binds] at he
                exact op_v
              · intro a' w' s hs hp hC hlo hhi he
                rw [if_neg (by decide)]
                have hs0 : s = 0 := Nat.le_zero.1 (Nat.le_trans hhi (Nat.le_of_eq (by kernel_rfl)))
                subst hs0
                clear hlo hhi
                try simp [Is, Region.binds] at he
                have c := Row.word (l := x) hC p.b (by omega); rw [← HXB.out] at c; exact op_val rfl (wanted_none rfl) (by first | (go_simp; done) | (go_simp; rfl)) rfl (Pu.refl _)
              · intro a' w' s hs hp hC hlo hhi he
                rw [if_neg (by decide)]
                clear hlo hhi
                have e10 := hs 10 (by kernel_rfl)
                try simp [Is, Region.binds] at he
                exact op_v
              · intro a' w' s hs hp hC hlo hhi he
                rw [if_neg (by decide)]
                clear hlo hhi
                have e14 := hs 14 (by kernel_rfl)
                try simp [Is, Region.binds] at he
                exact op_v
              · intro a' w' s hs hp hC hlo hhi he
                rw [if_neg (by decide)]
                clear hlo hhi
                try simp [Is, Region.binds] at he
                exact op_v
              · intro a' w' s hs hp hC hlo hhi he
                rw [if_neg (by decide)]
                clear hlo hhi
                try simp [Is, Region.binds] at he
                obtain ⟨c0, c1, c2, c3⟩ := Row.p4 (hp.row hin hne); exact op_val rfl (wanted_none rfl) (by first | (go_simp; done) | (go_simp; rfl)) rfl (Pu.refl _)
              · intro a' w' s hs hp hC hlo hhi he
                rw [if_neg (by decide)]
                clear hlo hhi
                try simp [Is, Region.binds] at he
                exact op_v
              · intro a' w' s hs hp hC hlo hhi he
                rw [if_neg (by decide)]
                have hs0 : s = 0 := Nat.le_zero.1 (Nat.le_trans hhi (Nat.le_of_eq (by kernel_rfl)))
                subst hs0
                clear hlo hhi
                try simp [Is, Region.binds] at he
                have c := Row.word (l := x) hC p.c (by omega); rw [← HXC.out] at c; exact op_val rfl (wanted_none rfl) (by first | (go_simp; done) | (go_simp; rfl)) rfl (Pu.refl _)
              · intro a' w' s hs hp hC hlo hhi he
                rw [if_neg (by decide)]
                clear hlo hhi
                have e10 := hs 10 (by kernel_rfl)
                try simp [Is, Region.binds] at he
                exact op_v
              · intro a' w' s hs hp hC hlo hhi he
                rw [if_neg (by decide)]
                clear hlo hhi
                have e14 := hs 14 (by kernel_rfl)
                try simp [Is, Region.binds] at he
                exact op_v
              · intro a' w' s hs hp hC hlo hhi he
                rw [if_neg (by decide)]
                clear hlo hhi
                try simp [Is, Region.binds] at he
                exact op_v
              · intro a' w' s hs hp hC hlo hhi he
                rw [if_neg (by decide)]
                clear hlo hhi
                try simp [Is, Region.binds] at he
                obtain ⟨c0, c1, c2, c3⟩ := Row.p4 (hp.row hin hne); exact op_val rfl (wanted_none rfl) (by first | (go_simp; done) | (go_simp; rfl)) rfl (Pu.refl _)
              · intro a' w' s hs hp hC hlo hhi he
                rw [if_neg (by decide)]
                clear hlo hhi
                try simp [Is, Region.binds] at he
                exact op_v
              · intro a' w' s hs hp hC hlo hhi he
                rw [if_neg (by decide)]
                have hs0 : s = 0 := Nat.le_zero.1 (Nat.le_trans hhi (Nat.le_of_eq (by kernel_rfl)))
                subst hs0
                clear hlo hhi
                try simp [Is, Region.binds] at he
                have c := Row.word (l := x) hC p.d (by omega); rw [← HXD.out] at c; exact op_val rfl (wanted_none rfl) (by first | (go_simp; done) | (go_simp; rfl)) rfl (Pu.refl _)
              · intro a' w' s hs hp hC hlo hhi he
                rw [if_neg (by decide)]
                clear hlo hhi
                try simp [Is, Region.binds] at he
                exact op_callV (HQU.out _) rfl (wanted_none rfl) (by first | (go_simp; done) | (go_simp; rfl)) rfl
              · intro a' w' s hs hp hC hlo hhi he
                rw [if_neg (by decide)]
                clear hlo hhi
                try simp [Is, Region.binds] at he
                exact op_v
              · intro a' w' s hs hp hC hlo hhi he
                rw [if_neg (by decide)]
                clear hlo hhi
                try simp [Is, Region.binds] at he
                exact op_v
              · intro a' w' s hs hp hC hlo hhi he
                rw [if_neg (by decide)]
                clear hlo hhi
                try simp [Is, Region.binds] at he
                exact op_v
              · intro a' w' s hs hp hC hlo hhi he
                rw [if_neg (by decide)]
                clear hlo hhi
                try simp [Is, Region.binds] at he
                exact op_v
              · intro a' w' s hs hp hC hlo hhi he
                rw [if_neg (by decide)]
                clear hlo hhi
                try simp [Is, Region.binds] at he
                exact op_v
              · intro a' w' s hs hp hC hlo hhi he
                rw [if_neg (by decide)]
                clear hlo hhi
                try simp [Is, Region.binds] at he
                exact op_v
              · intro a' w' s hs hp hC hlo hhi he
                rw [if_pos (by decide)]; intro hsc; clear hsc
                have hs0 : s = 0 := Nat.le_antisymm (Nat.le_trans hhi (Nat.le_of_eq (by kernel_rfl))) (Nat.le_trans (Nat.le_of_eq (by kernel_rfl)) hlo)
                subst hs0
                clear hlo hhi
                try simp [Is, Region.binds] at he
                have hc := Row.word (l := qpart x p q 0) hC p.a (by rw [qpart_length]; omega); have hf := hC.frozen p.a (by rw [vs_length, qpart_length]; omega); refine op_doneC rfl (wanted_none rfl) (by first | (go_simp; done) | (go_simp; rfl)) rfl ?_ (But.set _ _ _); have hst := hC.set p.a (V q.a); rw [vs_set] at hst; exact hst
              · intro a' w' s hs hp hC hlo hhi he
                rw [if_neg (by decide)]
                clear hlo hhi
                try simp [Is, Region.binds] at he
                exact op_v
              · intro a' w' s hs hp hC hlo hhi he
                rw [if_pos (by decide)]; intro hsc; clear hsc
                have hs0 : s = 1 := Nat.le_antisymm (Nat.le_trans hhi (Nat.le_of_eq (by kernel_rfl))) (Nat.le_trans (Nat.le_of_eq (by kernel_rfl)) hlo)
                subst hs0
                clear hlo hhi
                try simp [Is, Region.binds] at he
                have hc := Row.word (l := qpart x p q 1) hC p.b (by rw [qpart_length]; omega); have hf := hC.frozen p.b (by rw [vs_length, qpart_length]; omega); refine op_doneC rfl (wanted_none rfl) (by first | (go_simp; done) | (go_simp; rfl)) rfl ?_ (But.set _ _ _); have hst := hC.set p.b (V q.b); rw [vs_set] at hst; exact hst
              · intro a' w' s hs hp hC hlo hhi he
                rw [if_neg (by decide)]
                clear hlo hhi
                try simp [Is, Region.binds] at he
                exact op_v
              · intro a' w' s hs hp hC hlo hhi he
                rw [if_pos (by decide)]; intro hsc; clear hsc
                have hs0 : s = 2 := Nat.le_antisymm (Nat.le_trans hhi (Nat.le_of_eq (by kernel_rfl))) (Nat.le_trans (Nat.le_of_eq (by kernel_rfl)) hlo)
                subst hs0
                clear hlo hhi
                try simp [Is, Region.binds] at he
                have hc := Row.word (l := qpart x p q 2) hC p.c (by rw [qpart_length]; omega); have hf := hC.frozen p.c (by rw [vs_length, qpart_length]; omega); refine op_doneC rfl (wanted_none rfl) (by first | (go_simp; done) | (go_simp; rfl)) rfl ?_ (But.set _ _ _); have hst := hC.set p.c (V q.c); rw [vs_set] at hst; exact hst
              · intro a' w' s hs hp hC hlo hhi he
                rw [if_neg (by decide)]
                clear hlo hhi
                try simp [Is, Region.binds] at he
                exact op_v
              · intro a' w' s hs hp hC hlo hhi he
                rw [if_pos (by decide)]; intro hsc; clear hsc
                have hs0 : s = 3 := Nat.le_antisymm (Nat.le_trans hhi (Nat.le_of_eq (by kernel_rfl))) (Nat.le_trans (Nat.le_of_eq (by kernel_rfl)) hlo)
                subst hs0
                clear hlo hhi
                try simp [Is, Region.binds] at he
                have hc := Row.word (l := qpart x p q 3) hC p.d (by rw [qpart_length]; omega); have hf := hC.frozen p.d (by rw [vs_length, qpart_length]; omega); refine op_doneC rfl (wanted_none rfl) (by first | (go_simp; done) | (go_simp; rfl)) rfl ?_ (But.set _ _ _); have hst := hC.set p.d (V q.d); rw [vs_set] at hst; exact hst
             case hend =>
              intro a' w' hdef hsz hs hp hC hall
              obtain ⟨r0, r1, r2, r3, r4, r5, r6, r7, r8, r9, r10, r11, r12, r13, r14, r15, r16, r17, r18, r19, r20, r21, r22, r23, r24, r25, r26, r27, r28, r29, r30, r31, r32, r33, r34, r35, r36, r37, r38, r39, r40, r41, r42, r43, r44, r45, r46, r47, r48, r49, r50, r51, r52, r53, -⟩ := hall
              have hA := agree_done (agree_step (agree_step (agree_step (agree_step (agree_step (agree_step (agree_step (agree_step (agree_step (agree_step (agree_step (agree_step (agree_step (agree_step (agree_step (agree_step (agree_step (agree_step (agree_step (agree_step (agree_step (agree_step (agree_step (agree_step (agree_step (agree_step (agree_step (agree_step (agree_step (agree_step (agree_step (agree_step (agree_step (agree_step (agree_step (agree_step (agree_step (agree_step (agree_step (agree_step (agree_step (agree_step (agree_step (agree_step (agree_step (agree_step (agree_step (agree_step (agree_step (agree_step (agree_init [80, 81, 82, 83, 84, 85, 86, 87, 88, 89, 90, 91, 92, 93, 94, 95, 96, 97, 98, 99, 100, 101, 102, 103, 104, 105, 106, 107, 108, 109, 110, 111, 112, 113, 114, 115, 116, 117, 118, 119, 120, 79, 121, 122, 123, 124, 125, 126, 127, 128] hsz hs (by kernel_rfl)) r0) r1) r2) r3) r4) r5) r6) r7) r8) r9) r10) r11) r12) r13) r14) r15) r16) r17) r18) r19) r20) r21) r22) r23) r24) r25) r26) r27) r28) r29) r30) r31) r32) r33) r34) r35) r36) r37) r38) r39) r40) r41) r42) r43) r44) r45) r46) r48) r50) r52)
              have ha := act_of hA hdef
              rw [ha]
              clear ha hA hs hsz hdef r0 r1 r2 r3 r4 r5 r6 r7 r8 r9 r10 r11 r12 r13 r14 r15 r16 r17 r18 r19 r20 r21 r22 r23 r24 r25 r26 r27 r28 r29 r30 r31 r32 r33 r34 r35 r36 r37 r38 r39 r40 r41 r42 r43 r44 r45 r46 r47 r48 r49 r50 r51 r52 r53 
              (try simp only [List.setIfInBounds_toArray])
              (try dsimp only [List.set_cons_zero, List.set_cons_succ])
              (try simp only [Exit.then])
              have hbs := hbel.size
              replace hrs := hp.row hrs (by omega)
              replace hpl := hpl.but hp hgxb
              replace hbel := But.below hbel hp (by omega) hbs
              have hrx5 : Row w' gx 108 (vs (qrun s (8 * n + k + 1))) := by rw [← HQF.out]; exact hC
              clear hrx hC hin hp hbs
              go_wp2_with fail
              go_roundw
              case rel => first | exact ⟨k + 1, by omega, by go_num, hrs, hrx5, hpl, hbel⟩ | ((repeat apply Exists.intro); exact ⟨⟨k + 1, by omega, by go_num, hrs, hrx5, hpl, hbel⟩, rfl⟩)
              case measure => simp [intOf]; omega
           · obtain rfl : k = 8 := by omega
             have hfl : decide ((8 : Int) < 8) = false := by decide
             go_wp2_with fail
             go_roundw
             case rel => first | exact ⟨n + 1, by omega, by go_num, hrs, hrx, hpl, hbel⟩ | ((repeat apply Exists.intro); exact ⟨⟨n + 1, by omega, by go_num, hrs, hrx, hpl, hbel⟩, rfl⟩)
             case measure => simp [intOf]; omega
        · obtain rfl : n = 10 := by omega
          obtain ⟨x, hx⟩ : ∃ x, x = qrun s 80 := ⟨_, rfl⟩
          have hxl : x.length = 16 := by rw [hx, qrun_length, hsl]
          rw [show 8 * 10 = 80 from rfl, ← hx] at hrx
          have HX := Lib.hid hx
          clear hx hpl
          have kem : (ByteArray.mk #[]) = bs [] := rfl
          have cP : ∀ args w, (callFunc 83 args).run Tryz.prog w = .ok (.enter 83 args) w := fun args w => run_callFunc_body Tryz.func83 (by kernel_rfl) (by kernel_rfl) args w
          go_wp2_with fail
          obtain ⟨wo, hwo⟩ : ∃ wo : World, wo = wr := ⟨_, rfl⟩
          rw [← hwo] at hrx hrs hbel ⊢
          clear hwo
          go_loopw [15, 16] (fun o i wq => ∃ j : Nat, j ≤ 16 ∧ o = S (outC x s j) ∧ i = .int .i64 (j : Int) ∧ Row wq g3 108 (vs s) ∧ Row wq gx 108 (vs x) ∧ Below w.heap.size w wq) (fun _ i _ => 16 - (intOf i).toNat)
          case atStart => exact ⟨0, by omega, rfl, rfl, hrs, hrx, hbel⟩
          case round =>
           clear hrs hrx hbel
           obtain ⟨j, hj, rfl, rfl, hrs, hrx, hbel⟩ := hrel
           by_cases hlj : j < 16
           · have hst : outC x s (j+1) = outC x s j ++ putL (addL x s j).toNat 4 := rfl
             have hol := outC_le x s j hj
             obtain ⟨y, hy⟩ : ∃ y, y = x.getD j 0 := ⟨_, rfl⟩
             obtain ⟨z, hz⟩ : ∃ z, z = s.getD j 0 := ⟨_, rfl⟩
             rw [addL, ← hy, ← hz] at hst
             obtain ⟨acc, hacc⟩ : ∃ a, a = outC x s j := ⟨_, rfl⟩
             rw [← hacc] at hst hol
             rw [← hacc]
             obtain ⟨v, hv⟩ : ∃ v, v = y + z := ⟨_, rfl⟩
             have hadd : (wd y + wd z) % 4294967296 = wd v := by rw [hv, wd_add']
             rw [← hv] at hst
             have hadd2 : IntKind.u32.wrap (wd y + wd z) = wd v := by rw [hv, wd_add]
             have hwy : IntKind.u64.wrap (wd v) = wd v := wrap64_wd v
             have hwn := wd_nonneg v
             have hwl := wd_lt v
             have hpc := fun w => refPutLittle (wd v) 4 w hwn (by omega) (by omega) (by omega)
             rw [wd_toNat, show (4 : Int).toNat = 4 from rfl] at hpc
             obtain ⟨pv, hpv⟩ : ∃ l, l = putL v.toNat 4 := ⟨_, rfl⟩
             have hpvl : pv.length = 4 := by rw [hpv, putL_length]
             rw [← hpv] at hpc hst
             have hz9 : ¬ (9223372036854775807 < acc.length + pv.length) := by omega
             have hz8 : ¬ (9223372036854775807 < acc.length + 4) := by omega
             have HPC := Lib.hid hpc
             have HST := Lib.hid hst
             have HACC := Lib.hid hacc
             have HY := Lib.hid hy
             have HZ := Lib.hid hz
             have h0j : (0 : Int) ≤ j := by omega
             have h8j : (j : Int) < 16 := by omega
             clear hst hacc hy hz hv hpc hpv
             go_wp2_with fail
             apply region_writer (g := wr.heap.size) (n := 13) (hn := by kernel_rfl) (hlast := rfl) (hU := by kernel_rfl) (Φ1 := ([])) (Φm := Is _) (Φ2 := (Is _ :: Is _ :: Is _ :: Is _ :: Is _ :: Is _ :: Is _ :: Is _ :: Is _ :: Is _ :: Is _ :: Is _ :: [])) (hm := by kernel_rfl) (hE := by kernel_rfl) (hD := by kernel_rfl) (hsize := by kernel_rfl)
             case hop =>
              refine ⟨?_, ?_, ?_, ?_, ?_, ?_, ?_, ?_, ?_, ?_, ?_, ?_, ?_, trivial⟩
              · intro a' w' hs hp he
                have hp : Pu _ w' := hp
                have e15 := hs 15 (by kernel_rfl)
                try simp [Is, Region.binds] at he
                exact op_valB rfl (wanted_none rfl) (by first | (go_simp; done) | (go_simp; rfl) | (simp [execOp, Act.eval, go_sem, *]; done) | (simp [execOp, Act.eval, go_sem, *]; rfl)) rfl (But.pu (Pu.refl _))
              · intro a' w' hs hp he
                have hp : But wr.heap.size _ w' := hp
                replace hp := But.toPu hp (Nat.le_refl _)
                have e10 := hs 10 (by kernel_rfl)
                try simp [Is, Region.binds] at he
                exact op_v
              · intro a' w' hs hp he
                have hp : But wr.heap.size _ w' := hp
                replace hp := But.toPu hp (Nat.le_refl _)
                have e16 := hs 16 (by kernel_rfl)
                try simp [Is, Region.binds] at he
                exact op_v
              · intro a' w' hs hp he
                have hp : But wr.heap.size _ w' := hp
                replace hp := But.toPu hp (Nat.le_refl _)
                try simp [Is, Region.binds] at he
                exact op_v
              · intro a' w' hs hp he
                have hp : But wr.heap.size _ w' := hp
                replace hp := But.toPu hp (Nat.le_refl _)
                try simp [Is, Region.binds] at he
                have c := Row.word (hrx.pu hp) j (by omega); rw [← HY.out] at c; exact op_val rfl (wanted_none rfl) (by first | (go_simp; done) | (go_simp; rfl)) rfl (Pu.refl _)
              · intro a' w' hs hp he
                have hp : But wr.heap.size _ w' := hp
                replace hp := But.toPu hp (Nat.le_refl _)
                have e7 := hs 7 (by kernel_rfl)
                try simp [Is, Region.binds] at he
                exact op_v
              · intro a' w' hs hp he
                have hp : But wr.heap.size _ w' := hp
                replace hp := But.toPu hp (Nat.le_refl _)
                have e16 := hs 16 (by kernel_rfl)
                try simp [Is, Region.binds] at he
                exact op_v
              · intro a' w' hs hp he
                have hp : But wr.heap.size _ w' := hp
                replace hp := But.toPu hp (Nat.le_refl _)
                try simp [Is, Region.binds] at he
                exact op_v
              · intro a' w' hs hp he
                have hp : But wr.heap.size _ w' := hp
                replace hp := But.toPu hp (Nat.le_refl _)
                try simp [Is, Region.binds] at he
                have c := Row.word (hrs.pu hp) j (by omega); rw [← HZ.out] at c; exact op_val rfl (wanted_none rfl) (by first | (go_simp; done) | (go_simp; rfl)) rfl (Pu.refl _)
              · intro a' w' hs hp he
                have hp : But wr.heap.size _ w' := hp
                replace hp := But.toPu hp (Nat.le_refl _)
                try simp [Is, Region.binds] at he
                exact op_v
              · intro a' w' hs hp he
                have hp : But wr.heap.size _ w' := hp
                replace hp := But.toPu hp (Nat.le_refl _)
                try simp [Is, Region.binds] at he
                exact op_v
              · intro a' w' hs hp he
                have hp : But wr.heap.size _ w' := hp
                replace hp := But.toPu hp (Nat.le_refl _)
                try simp [Is, Region.binds] at he
                exact op_callP (HPC.out _) rfl (wanted_none rfl) (by first | (go_simp; done) | (go_simp; rfl)) (fun _ => rfl)
              · intro a' w' hs hp he
                have hp : But wr.heap.size _ w' := hp
                replace hp := But.toPu hp (Nat.le_refl _)
                try simp [Is, Region.binds] at he
                exact op_v
             case hend =>
              intro a' w' hdef hsz hs hp hall
              replace hp := But.toPu hp (Nat.le_refl _)
              obtain ⟨r0, r1, r2, r3, r4, r5, r6, r7, r8, r9, r10, r11, r12, -⟩ := hall
              have hA := agree_done (agree_step (agree_step (agree_step (agree_step (agree_step (agree_step (agree_step (agree_step (agree_step (agree_step (agree_step (agree_step (agree_step (agree_initL [133, 134, 135, 136, 137, 138, 139, 140, 141, 142, 143, 144, 145] hsz hs (by kernel_rfl)) r0) r1) r2) r3) r4) r5) r6) r7) r8) r9) r10) r11) r12)
              have ha := act_of hA hdef
              rw [ha]
              clear ha hA hs hsz hdef r0 r1 r2 r3 r4 r5 r6 r7 r8 r9 r10 r11 r12 
              (try simp only [List.setIfInBounds_toArray])
              (try dsimp only [List.set_cons_zero, List.set_cons_succ])
              (try simp only [Exit.then])
              refine op_run rfl (wanted_none rfl) (by first | (go_simp; done) | (go_simp; rfl) | (go_simp; exact ⟨rfl, rfl⟩)) ?_
              (try simp only [Act.put, List.setIfInBounds_toArray])
              (try dsimp only [List.set_cons_zero, List.set_cons_succ])
              (try simp only [Exit.inBlock, Exit.then])
              replace hrs := hrs.pu hp
              replace hrx := hrx.pu hp
              replace hbel := hbel.trans (Below.mono hp hbel.size)
              clear hp
              go_wp2_with fail
              go_roundw
              case rel => first | exact ⟨j + 1, by omega, by rw [HST.out], by go_num, hrs, hrx, hbel⟩ | ((repeat apply Exists.intro); exact ⟨⟨j + 1, by omega, by rw [HST.out], by go_num, hrs, hrx, hbel⟩, rfl⟩)
              case measure => simp [intOf]; omega
           · obtain rfl : j = 16 := by omega
             obtain ⟨acc, hacc⟩ : ∃ a, a = outC x s 16 := ⟨_, rfl⟩
             have hfin := HF.out
             rw [← HX.out, ← hacc] at hfin
             rw [← hacc]
             have HFIN := Lib.hid hfin
             clear hacc hfin
             go_wp2_with fail
             go_ret
             exact ⟨by rw [HFIN.out]; rfl, hbel⟩
end Go.Proofs.YtoakccknimoogaaGreat
