/- Package escutcheonbook: lists of texts: alike, copied, marked. Package escutcheonbook: marks of texts; a copy of a list of texts. Package escutcheonbook: are the lists of texts as they were; are they marked. Package escutcheonbook: the lists of texts are marked. Package escutcheonbook: lists grown (there may be nothing in them): what is kept of all of them. -/
import Derived.Test.YtoakccknimoogaaGreatU9
import Derived.ArgAppend
import Derived.OwnWalk
import Derived.Maps.AppendAt
set_option linter.unusedSimpArgs false
set_option linter.unusedVariables false
set_option linter.unusedSimpArgs false
set_option linter.unusedVariables false
namespace Go.Proofs.YtoakccknimoogaaGreat
open Go.RowKit Go.Esc
def txs (l : List Bs) : List Value := l.map S
theorem txs_length (l : List Bs) : (txs l).length = l.length := by simp [txs]
/-- The slice v holds the texts l (it may be nothing, where there are none). -/
def LT (w : World) (v : Value) (l : List Bs) : Prop := ∃ a cap, v = .slice a l.length cap ∧ l.length ≤ 100000 ∧ (0 < l.length → ∃ g, a = some ⟨g, 0, none⟩ ∧ g < w.heap.size ∧ ∀ j u, (txs l)[j]? = some u → w.cell? ⟨g, j, none⟩ = some u)
theorem LT.pu {w w' : World} {v : Value} {l : List Bs} (h : LT w v l) (hp : Pu w w') : LT w' v l := by
 obtain ⟨a, cap, hv, hm, hc⟩ := h
 refine ⟨a, cap, hv, hm, fun h0 => ?_⟩
 obtain ⟨g, ha, hg, hc⟩ := hc h0
 exact ⟨g, ha, Nat.lt_of_lt_of_le hg hp.size, fun j u hj => by rw [Below.cell hp (p := ⟨g, j, none⟩) hg]; exact hc j u hj⟩
theorem LT.own {w : World} {B : Nat} {v : Value} {n : Nat} {l : List Bs} (h : w.ownsRow B 9 1 v n (txs l)) (hl : l.length = n) (hn : n ≤ 100000) : LT w v l := by
 obtain ⟨a, c, rfl, -⟩ := own_slice h
 subst hl
 refine ⟨a, c, rfl, hn, fun h0 => ?_⟩
 obtain ⟨g, cap, hv, _, hg⟩ := own_form h h0
 cases hv
 exact ⟨g, rfl, hg, fun j u hj => by
  have hjl : j < l.length := by
   have := (List.getElem?_eq_some_iff.1 hj).1
   simpa [txs] using this
  rw [h.cellAt j (by omega)]; exact hj⟩
set_option maxRecDepth 100000 in
theorem sameTextsL (v1 v2 : Value) (l : List Bs) (w : World) (h1 : LT w v1 l) (h2 : LT w v2 l) :
 Calls Tryz.prog 15 #[v1, v2] w fun e w' => e = .returned (.bool true) ∧ Pu w w' := by
 have H1 := Lib.hid h1
 have H2 := Lib.hid h2
 obtain ⟨a1, c1, rfl, hm, -⟩ := h1
 obtain ⟨a2, c2, rfl, -, -⟩ := h2
 go_enter Tryz.func15, Tryz.ntmps15
 go_wp2_with fail
 go_loopw [5] (fun i wr => ∃ k : Nat, k ≤ l.length ∧ i = .int .i64 k ∧ Pu w wr) (fun i _ => l.length - (intOf i).toNat)
 case atStart => exact ⟨0, Nat.zero_le _, rfl, Below.refl _ _⟩
 case round =>
  obtain ⟨k, hk, rfl, hbel⟩ := hrel
  by_cases hlt : k < l.length
  · have hk1 : (k : Int) < l.length := by omega
    have hk0 : (0 : Int) ≤ k := by omega
    obtain ⟨x, hx⟩ : ∃ x, (txs l)[k]? = some (S x) := ⟨l[k], by simp [txs, List.getElem?_eq_getElem hlt]⟩
    obtain ⟨a3, c3, e3, -, h3⟩ := H1.out
    cases e3
    obtain ⟨a4, c4, e4, -, h4⟩ := H2.out
    cases e4
    obtain ⟨g1, rfl, l1, d1⟩ := h3 (by omega)
    obtain ⟨g2, rfl, l2, d2⟩ := h4 (by omega)
    have D1 : ∀ w' : World, Pu wr w' → w'.cell? ⟨g1, k, none⟩ = some (S x) := fun w' hp => by rw [Below.cell (hbel.trans hp) (p := ⟨g1, k, none⟩) l1]; exact d1 k _ hx
    have D2 : ∀ w' : World, Pu wr w' → w'.cell? ⟨g2, k, none⟩ = some (S x) := fun w' hp => by rw [Below.cell (hbel.trans hp) (p := ⟨g2, k, none⟩) l2]; exact d2 k _ hx
    have HD1 := Lib.hid D1
    have HD2 := Lib.hid D2
    clear D1 D2 hx h3 h4 d1 d2 H1 H2
    go_wp2_with fail
    apply region_pu (Φs := (Is _ :: Is _ :: Is _ :: Is _ :: Is _ :: Is _ :: Is _ :: Is _ :: Is _ :: Is _ :: [])) (hm := by kernel_rfl) (hE := by kernel_rfl) (hD := by kernel_rfl) (hsize := by kernel_rfl)
    case hop =>
     refine ⟨?_, ?_, ?_, ?_, ?_, ?_, ?_, ?_, ?_, ?_, trivial⟩
     · intro a' w' hs hp he
       have e0 := hs 0 (by kernel_rfl)
       try simp [Is, Region.binds] at he
       exact op_v
     · intro a' w' hs hp he
       have e5 := hs 5 (by kernel_rfl)
       try simp [Is, Region.binds] at he
       exact op_v
     · intro a' w' hs hp he
       try simp [Is, Region.binds] at he
       exact op_v
     · intro a' w' hs hp he
       try simp [Is, Region.binds] at he
       have hc := HD1.out _ hp; exact op_val rfl (wanted_none rfl) (by first | (go_simp; done) | (go_simp; rfl)) rfl (Below.refl _ _)
     · intro a' w' hs hp he
       have e1 := hs 1 (by kernel_rfl)
       try simp [Is, Region.binds] at he
       exact op_v
     · intro a' w' hs hp he
       have e5 := hs 5 (by kernel_rfl)
       try simp [Is, Region.binds] at he
       exact op_v
     · intro a' w' hs hp he
       try simp [Is, Region.binds] at he
       exact op_v
     · intro a' w' hs hp he
       try simp [Is, Region.binds] at he
       have hc := HD2.out _ hp; exact op_val rfl (wanted_none rfl) (by first | (go_simp; done) | (go_simp; rfl)) rfl (Below.refl _ _)
     · intro a' w' hs hp he
       try simp [Is, Region.binds] at he
       exact op_v
     · intro a' w' hs hp he
       try simp [Is, Region.binds] at he
       exact op_v
    case hend =>
     intro a' w' hdef hsz hs hp hall
     obtain ⟨r0, r1, r2, r3, r4, r5, r6, r7, r8, r9, -⟩ := hall
     have hA := agree_done (agree_step (agree_step (agree_step (agree_step (agree_step (agree_step (agree_step (agree_step (agree_step (agree_step (agree_init [17, 18, 19, 20, 21, 22, 23, 24, 25, 26] hsz hs (by kernel_rfl)) r0) r1) r2) r3) r4) r5) r6) r7) r8) r9)
     have ha := act_of hA hdef
     rw [ha]
     clear ha hA hs hsz hdef r0 r1 r2 r3 r4 r5 r6 r7 r8 r9 
     (try simp only [List.setIfInBounds_toArray])
     (try dsimp only [List.set_cons_zero, List.set_cons_succ])
     (try simp only [Exit.then])
     have hbel2 := hbel.trans hp
     clear hp
     go_wp2_with fail
     go_roundw
     case rel => exact ⟨k + 1, by omega, by go_num, hbel2⟩
     case measure => simp [intOf]; omega
  · obtain rfl : k = l.length := by omega
    have hlt' : decide ((l.length : Int) < l.length) = false := by simp
    go_wp2_with fail
    go_ret
    exact ⟨rfl, hbel⟩
end Go.Proofs.YtoakccknimoogaaGreat
set_option linter.unusedSimpArgs false
set_option linter.unusedVariables false
namespace Go.Proofs.YtoakccknimoogaaGreat
open Go.RowKit Go.Esc
/-- A mark. -/
def nameL (i k : Nat) : Bs := [109, UInt8.ofNat (65 + i % 26), UInt8.ofNat (65 + i / 26 % 26), UInt8.ofNat (48 + k % 10), UInt8.ofNat (48 + k / 10 % 10), UInt8.ofNat (48 + k / 100 % 10)]
theorem six_bytes_eq {P : Program} (w : World) (a b c d x y : Nat) (ha : a < 256) (hb : b < 256) (hc : c < 256) (hd : d < 256) (hx : x < 256) (hy : y < 256) (s t e : TypeId) (hs : P.underlying s = some (.slice e)) (he : P.underlying e = some (.int .u8)) (ht : P.underlying t = some .string) :
 (convert s t (.slice (some ⟨w.heap.size, 0, none⟩) 6 6)).run P (w.alloc (.cells #[.int .u8 (a : Int), .int .u8 (b : Int), .int .u8 (c : Int), .int .u8 (d : Int), .int .u8 (x : Int), .int .u8 (y : Int)] e)) = .ok (S [UInt8.ofNat a, UInt8.ofNat b, UInt8.ofNat c, UInt8.ofNat d, UInt8.ofNat x, UInt8.ofNat y]) (w.alloc (.cells #[.int .u8 (a : Int), .int .u8 (b : Int), .int .u8 (c : Int), .int .u8 (d : Int), .int .u8 (x : Int), .int .u8 (y : Int)] e)) := by
 refine Row.conv (e := e) s t ?_ rfl hs he ht
 have := Row.new w #[.int .u8 (a : Int), .int .u8 (b : Int), .int .u8 (c : Int), .int .u8 (d : Int), .int .u8 (x : Int), .int .u8 (y : Int)] e
 have e2 : cells [UInt8.ofNat a, UInt8.ofNat b, UInt8.ofNat c, UInt8.ofNat d, UInt8.ofNat x, UInt8.ofNat y] = [.int .u8 (a : Int), .int .u8 (b : Int), .int .u8 (c : Int), .int .u8 (d : Int), .int .u8 (x : Int), .int .u8 (y : Int)] := by
  simp [cells, B, Nat.mod_eq_of_lt ha, Nat.mod_eq_of_lt hb, Nat.mod_eq_of_lt hc, Nat.mod_eq_of_lt hd, Nat.mod_eq_of_lt hx, Nat.mod_eq_of_lt hy]
 rw [e2]; simpa using this
set_option maxRecDepth 100000 in
theorem nameW (i k : Nat) (hi : i ≤ 2000) (hk : k ≤ 2000) (w : World) :
 Calls Tryz.prog 134 #[.int .i64 (i : Int), .int .i64 (k : Int)] w fun e w' => e = .returned (S (nameL i k)) ∧ Pu w w' := by
 obtain ⟨a, ha⟩ : ∃ a : Nat, a = 65 + i % 26 := ⟨_, rfl⟩
 obtain ⟨b, hb⟩ : ∃ a : Nat, a = 65 + i / 26 % 26 := ⟨_, rfl⟩
 obtain ⟨c, hc⟩ : ∃ a : Nat, a = 48 + k % 10 := ⟨_, rfl⟩
 obtain ⟨d, hd⟩ : ∃ a : Nat, a = 48 + k / 10 % 10 := ⟨_, rfl⟩
 obtain ⟨x, hx⟩ : ∃ a : Nat, a = 48 + k / 100 % 10 := ⟨_, rfl⟩
 have ea : (65 : Int) + (i : Int) % 26 = (a : Int) := by omega
 have eb : (65 : Int) + (i : Int) / 26 % 26 = (b : Int) := by omega
 have ec : (48 : Int) + (k : Int) % 10 = (c : Int) := by omega
 have ed : (48 : Int) + (k : Int) / 10 % 10 = (d : Int) := by omega
 have ex : (48 : Int) + (k : Int) / 100 % 10 = (x : Int) := by omega
 have hcv := fun (w : World) => six_bytes_eq (P := Tryz.prog) w 109 a b c d x (by omega) (by omega) (by omega) (by omega) (by omega) (by omega) 51 9 5 Tryz.underlying51 Tryz.underlying5 Tryz.underlying9
 have HN := Lib.hid (show nameL i k = [UInt8.ofNat 109, UInt8.ofNat a, UInt8.ofNat b, UInt8.ofNat c, UInt8.ofNat d, UInt8.ofNat x] by rw [ha, hb, hc, hd, hx]; rfl)
 rw [show ((109 : Nat) : Int) = 109 from rfl] at hcv
 clear ha hb hc hd hx
 go_enter Tryz.func134, Tryz.ntmps134
 go_wp2_with fail
 go_ret
 exact ⟨by rw [HN.out]; rfl, (Pu.refl _).alloc _⟩
/-- Marks. -/
def marksT (i f n : Nat) : List Bs := (List.range n).map fun k => nameL i (f + k)
theorem marksT_length (i f n : Nat) : (marksT i f n).length = n := by simp [marksT]
theorem marksT_succ (i f n : Nat) : marksT i f (n+1) = marksT i f n ++ [nameL i (f + n)] := by simp [marksT, List.range_succ]
theorem infoT : (Tryz.prog.info? 9).map (fun i => (i.zero, i.size, i.bytes)) = some (some (.string ⟨#[]⟩), 1, 16) := by kernel_rfl
theorem cell_one_newT (w : World) (x : Value) (t : TypeId) : ∀ j u, [x][j]? = some u → (w.alloc (.cells #[x] t)).cell? ((⟨w.heap.size, 0, none⟩ : Addr).add j) = some u := by
 intro j u hj
 match j, hj with
 | 0, hj =>
   simp at hj
   subst hj
   simp [Addr.add]
set_option maxRecDepth 100000 in
theorem markTexts (i f n : Nat) (hi : i ≤ 1000) (hf : f ≤ 1000) (hn : n ≤ 1000) (w : World) :
 Calls Tryz.prog 98 #[.int .i64 i, .int .i64 f, .int .i64 n] w fun e w' => ∃ v, e = .returned v ∧ w'.ownsRow w.heap.size 9 1 v n (txs (marksT i f n)) ∧ Pu w w' := by
 obtain ⟨i0, hii, hz0, hz1, hz2⟩ := info_parts infoT
 have hfn : IntKind.i64.wrap ((f : Int) + n) = f + n := by rw [IntKind.wrap_i64]; omega
 go_enter Tryz.func98, Tryz.ntmps98
 go_wp2_with fail
 go_loopw [7, 8] (fun v x wr => ∃ k : Nat, k ≤ n ∧ x = .int .i64 ((f + k : Nat) : Int) ∧ wr.ownsRow w.heap.size 9 1 v k (txs (marksT i f k)) ∧ Below w.heap.size w wr) (fun _ x _ => f + n - (intOf x).toNat)
 case atStart => exact ⟨0, Nat.zero_le _, rfl, World.ownsRow_nil _ _ _ _, Below.refl _ _⟩
 case round =>
  obtain ⟨k, hk, rfl, hown, hbel⟩ := hrel
  obtain ⟨va, vc, rfl, hlt'⟩ := own_slice hown
  obtain ⟨y, hy⟩ : ∃ y : Nat, y = f + k := ⟨_, rfl⟩
  rw [← hy]
  by_cases hlt : k < n
  · have h1 : (y : Int) < (f : Int) + n := by omega
    have hNm := fun w => nameW i y (by omega) (by omega) w
    obtain ⟨m, hm⟩ : ∃ m, m = nameL i y := ⟨_, rfl⟩
    rw [← hm] at hNm
    have e3 : IntKind.i64.wrap ((y : Int) + 1) = y + 1 := by rw [IntKind.wrap_i64]; omega
    have HM := Lib.hid hm
    have HY := Lib.hid hy
    have HNM := Lib.hid hNm
    clear hm hy hNm
    go_wp2_with (first
     | (go_at_call 134; refine (HNM.out _).mono ?_; rintro e w1 ⟨rfl, hp1⟩)
     | (at_builtin; refine wpList_append_own _ rfl _ _ 31 rfl w.heap.size 9 i0 (.string ⟨#[]⟩) 1 16 Tryz.underlying31 hii hz0 hz1 hz2 rfl (by decide) (.slice va k vc) k _ rfl ((own_below hown hp1).alloc _) ⟨w1.heap.size, 0, none⟩ 1 1 [S m] rfl rfl (cell_one_newT _ _ _) (by simp [Value.oneCell', S]) (by unfold maxLen; omega) (by omega) (by have := hbel.size; have := hp1.size; simp; omega) ?_; intro v' w2 hown2 hgrow2 _))
    have hbel1 : Below w.heap.size w w1 := hbel.trans (Below.mono hp1 hbel.size)
    have hbel2 := (hbel1.trans (Below.mono ((Below.refl w1.heap.size w1).alloc (Nat.le_refl _) (.cells #[S m] 9)) hbel1.size)).grown hgrow2 (by have := hbel1.size; simp; omega) (fun j hj => (hlt' j hj).1)
    go_roundw
    case rel => exact ⟨k + 1, by omega, by have := HY.out; rw [show (y : Int) + 1 = ((f + (k + 1) : Nat) : Int) by omega], by
     rw [marksT_succ, txs, List.map_append]
     rw [← HY.out, ← HM.out]
     exact hown2, hbel2⟩
    case measure =>
     have := HY.out
     simp [intOf]; omega
  · obtain rfl : k = n := by omega
    have h1 : decide ((y : Int) < (f : Int) + k) = false := by simp; omega
    go_wp2_with fail
    go_ret
    exact ⟨_, rfl, hown, hbel⟩
set_option maxRecDepth 100000 in
theorem copyTexts (v : Value) (l : List Bs) (w : World) (h : LT w v l) :
 Calls Tryz.prog 38 #[v] w fun e w' => ∃ v', e = .returned v' ∧ w'.ownsRow w.heap.size 9 1 v' l.length (txs l) ∧ Pu w w' := by
 obtain ⟨i0, hii, hz0, hz1, hz2⟩ := info_parts infoT
 obtain ⟨a, cap, rfl, hm, hc⟩ := h
 have h1 : ∀ u ∈ txs l, u.oneCell' = true := by simp [txs, Value.oneCell', S]
 have H1 := Lib.hid h1
 cases a with
 | none =>
   have hl0 : l = [] := by
    cases l with
    | nil => rfl
    | cons x r => obtain ⟨g, hg, -⟩ := hc (by simp); cases hg
   subst hl0
   clear hc h1
   go_enter Tryz.func38, Tryz.ntmps38
   go_wp2_with fail
   go_ret
   exact ⟨_, rfl, World.ownsRow_nil _ _ _ _, Pu.refl _⟩
 | some ad =>
   have hn : ∀ j u, (txs l)[j]? = some u → w.cell? (ad.add j) = some u := by
    intro j u hj
    have hjl := (List.getElem?_eq_some_iff.1 hj).1
    rw [txs_length] at hjl
    obtain ⟨g, hg, -, hcc⟩ := hc (by omega)
    cases hg
    have := hcc j u hj; cases j <;> simpa [Addr.add] using this
   have HN := Lib.hid hn
   clear hn h1 hc
   go_enter Tryz.func38, Tryz.ntmps38
   go_wp2_with (at_builtin; refine wpList_append_own _ rfl _ _ 31 rfl w.heap.size 9 i0 (.string ⟨#[]⟩) 1 16 Tryz.underlying31 hii hz0 hz1 hz2 rfl (by decide) (.slice none 0 0) 0 [] rfl (World.ownsRow_nil _ _ _ _) ad l.length cap (txs l) rfl (by simp [txs]) HN.out H1.out (by unfold maxLen; omega) (by omega) (Nat.le_refl _) ?_; intro v' w2 hown2 hgrow2 _)
   go_ret
   exact ⟨v', rfl, by simpa using hown2, (Below.refl _ _).grown hgrow2 (Nat.le_refl _) (fun j hj => by cases hj)⟩
end Go.Proofs.YtoakccknimoogaaGreat
set_option linter.unusedSimpArgs false
set_option linter.unusedVariables false
namespace Go.Proofs.YtoakccknimoogaaGreat
open Go.RowKit Go.Esc
/-- The slice v holds the values vs. -/
def SL (w : World) (v : Value) (vs : List Value) : Prop := ∃ g cap, v = .slice (some ⟨g, 0, none⟩) vs.length cap ∧ vs.length ≤ 250 ∧ g < w.heap.size ∧ ∀ j u, vs[j]? = some u → w.cell? ⟨g, j, none⟩ = some u
theorem SL.pu {w w' : World} {v : Value} {l : List Value} (h : SL w v l) (hp : Pu w w') : SL w' v l := by
 obtain ⟨g, cap, hv, hm, hg, hc⟩ := h
 exact ⟨g, cap, hv, hm, Nat.lt_of_lt_of_le hg hp.size, fun j u hj => by rw [Below.cell hp (p := ⟨g, j, none⟩) hg]; exact hc j u hj⟩
set_option maxRecDepth 100000 in
set_option maxHeartbeats 1600000 in
theorem stillTextsK (b : Nat) (e : TypeId) (xs : List Value) (v2 v3 : Value) (vs us : List Value) (w : World) (hr : Row w b e xs) (h2 : xs[0]? = some v2) (h3 : xs[1]? = some v3)
 (s2 : SL w v2 vs) (s3 : SL w v3 us) (hl : us.length = vs.length) (he : ∀ (j : Nat) (v u : Value), vs[j]? = some v → us[j]? = some u → ∃ l, LT w v l ∧ LT w u l) :
 Calls Tryz.prog 39 #[.pointer (some ⟨b, 0, none⟩)] w fun e w' => e = .returned (.bool true) ∧ Pu w w' := by
 have hx2 : 0 < xs.length := (List.getElem?_eq_some_iff.1 h2).1
 have hx3 : 1 < xs.length := (List.getElem?_eq_some_iff.1 h3).1
 have hB2 : ∀ w' : World, Pu w w' → w'.cell? ⟨b, 0, none⟩ = some v2 := fun w' hp => by rw [(hr.pu hp).cell 0 hx2, ← List.getElem?_eq_getElem, h2]
 have hB3 : ∀ w' : World, Pu w w' → w'.cell? ⟨b, 1, none⟩ = some v3 := fun w' hp => by rw [(hr.pu hp).cell 1 hx3, ← List.getElem?_eq_getElem, h3]
 have S2 := Lib.hid s2
 have S3 := Lib.hid s3
 obtain ⟨q2, c2, rfl, hm, -, -⟩ := s2
 obtain ⟨q3, c3, rfl, -, -, -⟩ := s3
 have C2 : ∀ w' : World, Pu w w' → ∀ j u, vs[j]? = some u → w'.cell? ⟨q2, j, none⟩ = some u := by
  intro w' hp
  obtain ⟨g, c, hv, _, _, hc⟩ := S2.out.pu hp
  cases hv; exact hc
 have C3 : ∀ w' : World, Pu w w' → ∀ j u, us[j]? = some u → w'.cell? ⟨q3, j, none⟩ = some u := by
  intro w' hp
  obtain ⟨g, c, hv, _, _, hc⟩ := S3.out.pu hp
  cases hv; exact hc
 have HC2 := Lib.hid C2
 have HC3 := Lib.hid C3
 have HB2 := Lib.hid hB2
 have HB3 := Lib.hid hB3
 have HE := Lib.hid he
 have HL := Lib.hid hl
 rw [hl] at hB3
 rw [hl] at HB3
 clear C2 C3 S2 S3 hB2 hB3 he h2 h3 hx2 hx3 hr hl
 go_enter Tryz.func39, Tryz.ntmps39
 go_wp2_with fail
 go_loopw [3] (fun i wr => ∃ k : Nat, k ≤ vs.length ∧ i = .int .i64 k ∧ Below w.heap.size w wr) (fun i _ => vs.length - (intOf i).toNat)
 case atStart => exact ⟨0, Nat.zero_le _, rfl, Below.refl _ _⟩
 case round =>
  obtain ⟨k, hk, rfl, hbel⟩ := hrel
  have hb2 := HB2.out wr hbel
  by_cases hlt : k < vs.length
  · have hk1 : (k : Int) < vs.length := by omega
    have hk0 : (0 : Int) ≤ k := by omega
    obtain ⟨v, hv⟩ : ∃ v, vs[k]? = some v := ⟨_, List.getElem?_eq_getElem hlt⟩
    obtain ⟨u, hu⟩ : ∃ u, us[k]? = some u := ⟨_, List.getElem?_eq_getElem (by rw [HL.out]; exact hlt)⟩
    obtain ⟨l, l1, l2⟩ := HE.out k v u hv hu
    have hSa : ∀ w' : World, Pu wr w' → Calls Tryz.prog 15 #[v, u] w' fun e w' => e = .returned (.bool true) ∧ _ := fun w' hp => sameTextsL v u l w' (l1.pu (hbel.trans (Below.mono hp hbel.size))) (l2.pu (hbel.trans (Below.mono hp hbel.size)))
    obtain ⟨g1, n1, rfl, -, -⟩ := l1
    obtain ⟨g2, n2, rfl, -, -⟩ := l2
    have D1 : ∀ w' : World, Pu wr w' → w'.cell? ⟨q2, k, none⟩ = some _ := fun w' hp => HC2.out w' (hbel.trans (Below.mono hp hbel.size)) k _ hv
    have D2 : ∀ w' : World, Pu wr w' → w'.cell? ⟨q3, k, none⟩ = some _ := fun w' hp => HC3.out w' (hbel.trans (Below.mono hp hbel.size)) k _ hu
    have B2 : ∀ w' : World, Pu wr w' → w'.cell? ⟨b, 0, none⟩ = some _ := fun w' hp => HB2.out w' (hbel.trans (Below.mono hp hbel.size))
    have B3 : ∀ w' : World, Pu wr w' → w'.cell? ⟨b, 1, none⟩ = some _ := fun w' hp => HB3.out w' (hbel.trans (Below.mono hp hbel.size))
    have HD1 := Lib.hid D1
    have HD2 := Lib.hid D2
    have HA2 := Lib.hid B2
    have HA3 := Lib.hid B3
    have HSA := Lib.hid hSa
    have cS : ∀ args w, (callFunc 15 args).run Tryz.prog w = .ok (.enter 15 args) w := fun args w => run_callFunc_body Tryz.func15 (by kernel_rfl) (by kernel_rfl) args w
    clear D1 D2 B2 B3 hSa hv hu
    go_wp2_with fail
    apply region_pu (Φs := (Is _ :: Is _ :: Is _ :: Is _ :: Is _ :: Is _ :: Is _ :: Is _ :: Is _ :: Is _ :: Is _ :: Is _ :: Is _ :: Is _ :: Is _ :: Is _ :: [])) (hm := by kernel_rfl) (hE := by kernel_rfl) (hD := by kernel_rfl) (hsize := by kernel_rfl)
    case hop =>
     refine ⟨?_, ?_, ?_, ?_, ?_, ?_, ?_, ?_, ?_, ?_, ?_, ?_, ?_, ?_, ?_, ?_, trivial⟩
     · intro a' w' hs hp he
       have e0 := hs 0 (by kernel_rfl)
       try simp [Is, Region.binds] at he
       exact op_v
     · intro a' w' hs hp he
       try simp [Is, Region.binds] at he
       exact op_v
     · intro a' w' hs hp he
       try simp [Is, Region.binds] at he
       exact op_v
     · intro a' w' hs hp he
       try simp [Is, Region.binds] at he
       have hc := HA2.out _ hp; exact op_val rfl (wanted_none rfl) (by first | (go_simp; done) | (go_simp; rfl)) rfl (Below.refl _ _)
     · intro a' w' hs hp he
       have e3 := hs 3 (by kernel_rfl)
       try simp [Is, Region.binds] at he
       exact op_v
     · intro a' w' hs hp he
       try simp [Is, Region.binds] at he
       exact op_v
     · intro a' w' hs hp he
       try simp [Is, Region.binds] at he
       have hc := HD1.out _ hp; exact op_val rfl (wanted_none rfl) (by first | (go_simp; done) | (go_simp; rfl)) rfl (Below.refl _ _)
     · intro a' w' hs hp he
       have e0 := hs 0 (by kernel_rfl)
       try simp [Is, Region.binds] at he
       exact op_v
     · intro a' w' hs hp he
       try simp [Is, Region.binds] at he
       exact op_v
     · intro a' w' hs hp he
       try simp [Is, Region.binds] at he
       exact op_v
     · intro a' w' hs hp he
       try simp [Is, Region.binds] at he
       have hc := HA3.out _ hp; exact op_val rfl (wanted_none rfl) (by first | (go_simp; done) | (go_simp; rfl)) rfl (Below.refl _ _)
     · intro a' w' hs hp he
       have e3 := hs 3 (by kernel_rfl)
       try simp [Is, Region.binds] at he
       exact op_v
     · intro a' w' hs hp he
       try simp [Is, Region.binds] at he
       exact op_v
     · intro a' w' hs hp he
       try simp [Is, Region.binds] at he
       have hc := HD2.out _ hp; exact op_val rfl (wanted_none rfl) (by first | (go_simp; done) | (go_simp; rfl)) rfl (Below.refl _ _)
     · intro a' w' hs hp he
       try simp [Is, Region.binds] at he
       exact op_callP (HSA.out _ hp) rfl (wanted_none rfl) (by first | (go_simp; done) | (go_simp; rfl)) (fun _ => rfl)
     · intro a' w' hs hp he
       try simp [Is, Region.binds] at he
       exact op_v
    case hend =>
     intro a' w' hdef hsz hs hp hall
     obtain ⟨r0, r1, r2, r3, r4, r5, r6, r7, r8, r9, r10, r11, r12, r13, r14, r15, -⟩ := hall
     have hA := agree_done (agree_step (agree_step (agree_step (agree_step (agree_step (agree_step (agree_step (agree_step (agree_step (agree_step (agree_step (agree_step (agree_step (agree_step (agree_step (agree_step (agree_init [13, 14, 15, 16, 17, 18, 19, 20, 21, 22, 23, 24, 25, 26, 27, 28] hsz hs (by kernel_rfl)) r0) r1) r2) r3) r4) r5) r6) r7) r8) r9) r10) r11) r12) r13) r14) r15)
     have ha := act_of hA hdef
     rw [ha]
     clear ha hA hs hsz hdef r0 r1 r2 r3 r4 r5 r6 r7 r8 r9 r10 r11 r12 r13 r14 r15 
     (try simp only [List.setIfInBounds_toArray])
     (try dsimp only [List.set_cons_zero, List.set_cons_succ])
     (try simp only [Exit.then])
     have hbel2 := hbel.trans (Below.mono hp hbel.size)
     clear hp
     go_wp2_with fail
     go_roundw
     case rel => exact ⟨k + 1, by omega, by go_num, hbel2⟩
     case measure => simp [intOf]; omega
  · obtain rfl : k = vs.length := by omega
    have hlt' : decide ((vs.length : Int) < vs.length) = false := by simp
    go_wp2_with fail
    go_ret
    exact ⟨rfl, hbel⟩
def IsLIT (l : List Bs) : Value → World → Prop := fun v w => LT w v l
instance (l : List Bs) : Stable (IsLIT l) := ⟨fun _ _ _ h hp => LT.pu h hp⟩
theorem op_callQ {P : Program} {ops : Array Oper} {Q : Exit → Act → World → Prop} {Φ : Value → World → Prop} {i : Nat} {o : Oper} {a' : Act} {w' : World} {f : FuncId} {args : Array Value} (hc : Calls P f args w' fun e w'' => ∃ v, e = .returned v ∧ Φ v w'' ∧ Pu w' w'') (ho : ops[i]? = some o) (hw : Region.wanted o (yielded ops a'.tmps) = true)
 (hrun : (execOp a'.eval o).run P w' = .ok (.enter f args) w') (hd : o.dst.isSome = true) :
 wpOp P ops Q i (fun a'' w'' => ∃ v, a'' = a'.put o.dst v ∧ Φ (if o.dst.isSome then v else undef) w'' ∧ Pu w' w'') a' w' :=
 op_call ho hw hrun (hc.mono (by rintro e w'' ⟨v, rfl, h, hp⟩; exact ⟨v, rfl, by rw [if_pos hd]; exact h, hp⟩))
theorem markLT (i n : Nat) (hi : i ≤ 1000) (hn : n ≤ 1000) (w : World) :
 Calls Tryz.prog 98 #[.int .i64 i, .int .i64 0, .int .i64 n] w fun e w' => ∃ v, e = .returned v ∧ IsLIT (marksT i 0 n) v w' ∧ Pu w w' := by
 refine (markTexts i 0 n hi (by omega) hn w).mono ?_
 rintro e w' ⟨v, rfl, ho, hp⟩
 exact ⟨v, rfl, LT.own ho (marksT_length _ _ _) (by omega), hp⟩
set_option maxRecDepth 100000 in
set_option maxHeartbeats 1600000 in
theorem markedTextsK (v2 : Value) (vs : List Value) (w : World) (s2 : SL w v2 vs) (he : ∀ (j : Nat) (v : Value), vs[j]? = some v → ∃ n, n ≤ 1000 ∧ LT w v (marksT j 0 n)) :
 Calls Tryz.prog 60 #[v2] w fun e w' => e = .returned (.bool true) ∧ Pu w w' := by
 have S2 := Lib.hid s2
 obtain ⟨q2, c2, rfl, hm, -, -⟩ := s2
 have C2 : ∀ w' : World, Pu w w' → ∀ j u, vs[j]? = some u → w'.cell? ⟨q2, j, none⟩ = some u := by
  intro w' hp
  obtain ⟨g, c, hv, _, _, hc⟩ := S2.out.pu hp
  cases hv; exact hc
 have HC2 := Lib.hid C2
 have HE := Lib.hid he
 clear C2 S2 he
 go_enter Tryz.func60, Tryz.ntmps60
 go_wp2_with fail
 go_loopw [3] (fun i wr => ∃ k : Nat, k ≤ vs.length ∧ i = .int .i64 k ∧ Below w.heap.size w wr) (fun i _ => vs.length - (intOf i).toNat)
 case atStart => exact ⟨0, Nat.zero_le _, rfl, Below.refl _ _⟩
 case round =>
  obtain ⟨k, hk, rfl, hbel⟩ := hrel
  by_cases hlt : k < vs.length
  · have hk1 : (k : Int) < vs.length := by omega
    have hk0 : (0 : Int) ≤ k := by omega
    obtain ⟨v, hv⟩ : ∃ v, vs[k]? = some v := ⟨_, List.getElem?_eq_getElem hlt⟩
    obtain ⟨n, n1, l1⟩ := HE.out k v hv
    have hLa : ∀ w' : World, Pu wr w' → LT w' v (marksT k 0 n) := fun w' hp => l1.pu (hbel.trans (Below.mono hp hbel.size))
    have hMk := fun w' => markLT k n (by omega) n1 w'
    have hll := marksT_length k 0 n
    obtain ⟨l, hl⟩ : ∃ l, l = marksT k 0 n := ⟨_, rfl⟩
    rw [← hl] at hLa hMk hll l1
    obtain ⟨g1, c1, rfl, -, -⟩ := l1
    have D1 : ∀ w' : World, Pu wr w' → w'.cell? ⟨q2, k, none⟩ = some _ := fun w' hp => HC2.out w' (hbel.trans (Below.mono hp hbel.size)) k _ hv
    have HD1 := Lib.hid D1
    have HLA := Lib.hid hLa
    have HMK := Lib.hid hMk
    have cS : ∀ args w, (callFunc 15 args).run Tryz.prog w = .ok (.enter 15 args) w := fun args w => run_callFunc_body Tryz.func15 (by kernel_rfl) (by kernel_rfl) args w
    have cM : ∀ args w, (callFunc 98 args).run Tryz.prog w = .ok (.enter 98 args) w := fun args w => run_callFunc_body Tryz.func98 (by kernel_rfl) (by kernel_rfl) args w
    clear D1 hLa hMk hv hl
    go_wp2_with fail
    apply region_pu (Φs := (Is _ :: Is _ :: Is _ :: Is _ :: Is _ :: Is _ :: Is _ :: Is _ :: Is _ :: Is _ :: IsLIT l :: Is _ :: Is _ :: [])) (hm := by kernel_rfl) (hE := by kernel_rfl) (hD := by kernel_rfl) (hsize := by kernel_rfl)
    case hop =>
     refine ⟨?_, ?_, ?_, ?_, ?_, ?_, ?_, ?_, ?_, ?_, ?_, ?_, ?_, trivial⟩
     · intro a' w' hs hp he
       have e0 := hs 0 (by kernel_rfl)
       try simp [Is, Region.binds] at he
       exact op_v
     · intro a' w' hs hp he
       have e3 := hs 3 (by kernel_rfl)
       try simp [Is, Region.binds] at he
       exact op_v
     · intro a' w' hs hp he
       try simp [Is, Region.binds] at he
       exact op_v
     · intro a' w' hs hp he
       try simp [Is, Region.binds] at he
       have hc := HD1.out _ hp; exact op_val rfl (wanted_none rfl) (by first | (go_simp; done) | (go_simp; rfl)) rfl (Below.refl _ _)
     · intro a' w' hs hp he
       have e3 := hs 3 (by kernel_rfl)
       try simp [Is, Region.binds] at he
       exact op_v
     · intro a' w' hs hp he
       have e0 := hs 0 (by kernel_rfl)
       try simp [Is, Region.binds] at he
       exact op_v
     · intro a' w' hs hp he
       have e3 := hs 3 (by kernel_rfl)
       try simp [Is, Region.binds] at he
       exact op_v
     · intro a' w' hs hp he
       try simp [Is, Region.binds] at he
       exact op_v
     · intro a' w' hs hp he
       try simp [Is, Region.binds] at he
       have hc := HD1.out _ hp; exact op_val rfl (wanted_none rfl) (by first | (go_simp; done) | (go_simp; rfl)) rfl (Below.refl _ _)
     · intro a' w' hs hp he
       try simp [Is, Region.binds] at he
       exact op_v
     · intro a' w' hs hp he
       try simp [Is, Region.binds] at he
       exact op_callQ (HMK.out _) rfl (wanted_none rfl) (by first | (go_simp; done) | (go_simp; rfl)) rfl
     · intro a' w' hs hp he
       try simp [Is, Region.binds] at he
       obtain ⟨h13, g, cp, hv, hm9, hc9⟩ := he; exact op_callP (sameTextsL _ _ l _ (HLA.out _ hp) ⟨g, cp, rfl, hm9, hc9⟩) rfl (wanted_none rfl) (by first | (go_simp; done) | (go_simp; rfl)) (fun _ => rfl)
     · intro a' w' hs hp he
       try simp [Is, Region.binds] at he
       exact op_v
    case hend =>
     intro a' w' hdef hsz hs hp hall
     obtain ⟨r0, r1, r2, r3, r4, r5, r6, r7, r8, r9, r10, r11, r12, -⟩ := hall
     obtain ⟨g10, cap10, rv10, row10⟩ := r10
     have hA := agree_done (agree_step (agree_step (agree_step (agree_step (agree_step (agree_step (agree_step (agree_step (agree_step (agree_step (agree_step (agree_step (agree_step (agree_init [10, 11, 12, 13, 14, 15, 16, 17, 18, 19, 20, 21, 22] hsz hs (by kernel_rfl)) r0) r1) r2) r3) r4) r5) r6) r7) r8) r9) rv10) r11) r12)
     have ha := act_of hA hdef
     rw [ha]
     clear ha hA hs hsz hdef r0 r1 r2 r3 r4 r5 r6 r7 r8 r9 r11 r12 rv10
     (try simp only [List.setIfInBounds_toArray])
     (try dsimp only [List.set_cons_zero, List.set_cons_succ])
     (try simp only [Exit.then])
     have hbel2 := hbel.trans (Below.mono hp hbel.size)
     clear hp
     go_wp2_with fail
     go_roundw
     case rel => exact ⟨k + 1, by omega, by go_num, hbel2⟩
     case measure => simp [intOf]; omega
  · obtain rfl : k = vs.length := by omega
    have hlt' : decide ((vs.length : Int) < vs.length) = false := by simp
    go_wp2_with fail
    go_ret
    exact ⟨rfl, hbel⟩
end Go.Proofs.YtoakccknimoogaaGreat
set_option linter.unusedSimpArgs false
set_option linter.unusedVariables false
namespace Go.Proofs.YtoakccknimoogaaGreat
open Go.RowKit Go.Esc
theorem own_puQ {B : Nat} {e : TypeId} {k : Nat} {v : Value} {n : Nat} {xs : List Value} {w w' : World} (h : w.ownsRow B e k v n xs) (hb : Pu w w') : w'.ownsRow B e k v n xs :=
 h.kept (row := none) ⟨hb.os, hb.tape, hb.output, hb.size, fun i hi _ => hb.block i hi⟩ (Classical.em _)
/-- The kept lists. -/
def Own (w : World) (vs : List Value) (cs : Nat → List Bs) : Prop := ∀ (j : Nat) (v : Value), vs[j]? = some v → w.ownsRow 0 9 1 v (cs j).length (txs (cs j))
theorem Own.pu {w w' : World} {vs : List Value} {cs : Nat → List Bs} (h : Own w vs cs) (hp : Pu w w') : Own w' vs cs := fun j v hj => own_puQ (h j v hj) hp
theorem txs_set (l : List Bs) (k : Nat) (x : Bs) : (txs l).set k (S x) = txs (l.set k x) := by simp [txs, List.map_set]
/-- The lists while list i is marked, k of it. -/
def halfL (i k : Nat) (l : List Bs) : List Bs := (marksT i 0 l.length).take k ++ l.drop k
theorem halfL_length (i k : Nat) (l : List Bs) (h : k ≤ l.length) : (halfL i k l).length = l.length := by simp [halfL, marksT_length]; omega
theorem halfL_zero (i : Nat) (l : List Bs) : halfL i 0 l = l := by simp [halfL]
theorem halfL_all (i : Nat) (l : List Bs) : halfL i l.length l = marksT i 0 l.length := by simp [halfL, marksT_length, List.take_of_length_le]
theorem halfL_set (i k : Nat) (l : List Bs) (h : k < l.length) : (halfL i k l).set k ((marksT i 0 l.length)[k]'(by rw [marksT_length]; exact h)) = halfL i (k+1) l := by
 have hm := marksT_length i 0 l.length
 have hk : k - min k (marksT i 0 l.length).length = 0 := by rw [hm]; omega
 rw [halfL, halfL, List.set_append, if_neg (by simp; omega), List.length_take, hk, List.drop_eq_getElem_cons h, List.set_cons_zero, List.take_succ_eq_append_getElem (by omega), List.append_assoc]
 rfl
def stepL (cs : Nat → List Bs) (i : Nat) (l : List Bs) : Nat → List Bs := fun j => if j = i then l else cs j
def doneL (ls : Nat → List Bs) (i : Nat) : Nat → List Bs := fun j => if j < i then marksT j 0 (ls j).length else ls j
theorem doneL_at (ls : Nat → List Bs) (i : Nat) : doneL ls i i = ls i := by simp [doneL]
theorem doneL_succ (ls : Nat → List Bs) (i : Nat) : stepL (doneL ls i) i (marksT i 0 (ls i).length) = doneL ls (i+1) := by
 funext j
 unfold stepL doneL
 by_cases h : j = i
 · subst h; simp
 · rw [if_neg h]
   by_cases h2 : j < i
   · rw [if_pos h2, if_pos (by omega)]
   · rw [if_neg h2, if_neg (by omega)]
theorem stepL_stepL (cs : Nat → List Bs) (i : Nat) (a b : List Bs) : stepL (stepL cs i a) i b = stepL cs i b := by funext j; unfold stepL; split <;> rfl
theorem stepL_same (cs : Nat → List Bs) (i : Nat) : stepL cs i (cs i) = cs := by
 funext j; unfold stepL; split
 · rename_i h; rw [h]
 · rfl
theorem Own.step {w w' : World} {vs : List Value} {cs : Nat → List Bs} {i g n cap : Nat} (h : Own w vs cs) (hv : vs[i]? = some (.slice (some ⟨g, 0, none⟩) n cap)) (hd : ∀ (a b : Nat) (u v : Value), a ≠ b → vs[a]? = some u → vs[b]? = some v → u.ownBlock = none ∨ u.ownBlock ≠ v.ownBlock)
 {l : List Bs} (ho : w'.ownsRow 0 9 1 (.slice (some ⟨g, 0, none⟩) n cap) n (txs l)) (hl : l.length = n) (hg : w.grownBy w' (some g)) : Own w' vs (stepL cs i l) := by
 intro j v hj
 by_cases hji : j = i
 · subst hji
   rw [hv] at hj; cases hj
   simp only [stepL, if_true, hl]; exact ho
 · simp only [stepL, if_neg hji]
   exact (h j v hj).kept hg (hd j i v _ hji hj hv)
set_option maxRecDepth 100000 in
set_option maxHeartbeats 3200000 in
theorem putTextsK (G : Nat → Prop) (b : Nat) (e : TypeId) (xs : List Value) (v2 : Value) (vs : List Value) (ls : Nat → List Bs) (w : World) (hr : Row w b e xs) (h2 : xs[0]? = some v2) (s2 : SL w v2 vs)
 (hGb : ¬ G b) (hG2 : ∀ g, v2.ownBlock = some g → ¬ G g) (hGv : ∀ (j : Nat) (v : Value) (g : Nat), vs[j]? = some v → v.ownBlock = some g → G g) (hGs : ∀ g, G g → g < w.heap.size)
 (hd : ∀ (a b : Nat) (u v : Value), a ≠ b → vs[a]? = some u → vs[b]? = some v → u.ownBlock = none ∨ u.ownBlock ≠ v.ownBlock)
 (hl0 : ∀ j, j < vs.length → (ls j).length ≤ 1000) (hO : Own w vs ls) :
 Calls Tryz.prog 47 #[.pointer (some ⟨b, 0, none⟩)] w fun e w' => e = .returned (.tuple #[]) ∧ Cg G w w' ∧ Own w' vs (doneL ls vs.length) := by
 have hx2 : 0 < xs.length := (List.getElem?_eq_some_iff.1 h2).1
 have hB2 : ∀ w' : World, Cg G w w' → w'.cell? ⟨b, 0, none⟩ = some v2 := fun w' hp => by rw [hp.cell hr.lt hGb, hr.cell 0 hx2, ← List.getElem?_eq_getElem, h2]
 obtain ⟨q2, c2, rfl, hm, hq2, hcc⟩ := s2
 have hGq : ¬ G q2 := hG2 q2 rfl
 have hC2 : ∀ w' : World, Cg G w w' → ∀ j u, vs[j]? = some u → w'.cell? ⟨q2, j, none⟩ = some u := fun w' hp j u hj => by rw [hp.cell hq2 hGq]; exact hcc j u hj
 have HB2 := Lib.hid hB2
 have HC2 := Lib.hid hC2
 have HGV := Lib.hid hGv
 have HGS := Lib.hid hGs
 have HD := Lib.hid hd
 have HL0 := Lib.hid hl0
 clear hB2 hC2 hGv hGs hd hl0 hcc h2 hx2 hr hG2
 go_enter Tryz.func47, Tryz.ntmps47
 go_wp2_with fail
 go_loopw [2, 3, 4] (fun x _ _ wr => ∃ i : Nat, i ≤ vs.length ∧ x = .int .i64 i ∧ Cg G w wr ∧ Own wr vs (doneL ls i)) (fun x _ _ _ => vs.length - (intOf x).toNat)
 case atStart => exact ⟨0, Nat.zero_le _, rfl, Cg.refl _ _, hO⟩
 case round =>
  clear hO
  obtain ⟨i, hi, rfl, hcg, hown⟩ := hrel
  have hb2 := HB2.out wr hcg
  by_cases hlt : i < vs.length
  · have hi1 : (i : Int) < vs.length := by omega
    have hi0 : (0 : Int) ≤ i := by omega
    obtain ⟨v, hv⟩ : ∃ v, vs[i]? = some v := ⟨_, List.getElem?_eq_getElem hlt⟩
    have hc2 := HC2.out wr hcg i v hv
    have l1 := HL0.out i hlt
    obtain ⟨l, hll⟩ : ∃ l, l = ls i := ⟨_, rfl⟩
    obtain ⟨L, hL⟩ : ∃ L, L = l.length := ⟨_, rfl⟩
    have hov := hown i v hv
    rw [doneL_at, ← hll, ← hL] at hov
    rw [← hll, ← hL] at l1
    by_cases l0 : 0 < L
    rotate_left
    · obtain rfl : L = 0 := by omega
      have hMk := fun w' => markTexts i 0 0 (by omega) (by omega) (by omega) w'
      rw [show ((0 : Nat) : Int) = 0 from rfl] at hMk
      have HMK := Lib.hid hMk
      obtain ⟨a9, c9, rfl, -⟩ := own_slice hov
      have hdn : doneL ls (i+1) = doneL ls i := by
       have h1 := doneL_succ ls i
       have h2 : ls i = [] := List.eq_nil_of_length_eq_zero (by rw [← hll]; exact hL.symm)
       have h3 := stepL_same (doneL ls i) i
       rw [doneL_at, h2] at h3
       rw [h2] at h1
       rw [← h1, ← h3]
       simp [marksT]
       rw [stepL_stepL]
      have HDN := Lib.hid hdn
      clear hMk hll hL hov hdn
      go_wp2_with (go_at_call 98; refine (HMK.out _).mono ?_; rintro e w1 ⟨mv, rfl, hmo, hp1⟩; obtain ⟨am, capm, rfl, -⟩ := own_slice hmo)
      have hc1 := hcg.pu hp1
      have ho1 := hown.pu hp1
      go_loopw [4] (fun x wq => x = .int .i64 0 ∧ Cg G w wq ∧ Own wq vs (doneL ls i)) (fun _ _ => 0)
      case atStart => exact ⟨rfl, hc1, ho1⟩
      case round =>
       clear hc1 ho1 hmo hp1 hown hb2 hc2 hcg
       obtain ⟨rfl, hcg, hown⟩ := hrel
       go_wp2_with fail
       go_roundw
       case rel => exact ⟨i + 1, by omega, by go_num, hcg, by rw [HDN.out]; exact hown⟩
       case measure => simp [intOf]; omega
    obtain ⟨g, cap, rfl, -, hg⟩ := own_form hov l0
    have hGg := HGV.out i _ g hv rfl
    have hMk := fun w' => markTexts i 0 L (by omega) (by omega) l1 w'
    rw [show ((0 : Nat) : Int) = 0 from rfl] at hMk
    have HMK := Lib.hid hMk
    have HV := Lib.hid hv
    have HLL := Lib.hid hll
    have HLE := Lib.hid hL
    clear hMk hv hll hL hov
    go_wp2_with (go_at_call 98; refine (HMK.out _).mono ?_; rintro e w1 ⟨mv, rfl, hmo, hp1⟩; obtain ⟨gm, capm, rfl, hgm1, hgm2⟩ := own_form hmo l0)
    have hlen : (ls i).length = L := by rw [← HLL.out, HLE.out]
    go_loopw [4] (fun x wq => ∃ k : Nat, k ≤ L ∧ x = .int .i64 k ∧ Cg G w wq ∧ Own wq vs (stepL (doneL ls i) i (halfL i k (ls i))) ∧ wq.ownsRow wr.heap.size 9 1 (.slice (some ⟨gm, 0, none⟩) L capm) L (txs (marksT i 0 L))) (fun x _ => L - (intOf x).toNat)
    case atStart => exact ⟨0, Nat.zero_le _, rfl, hcg.pu hp1, by rw [halfL_zero]; have := stepL_same (doneL ls i) i; rw [doneL_at] at this; rw [this]; exact hown.pu hp1, hmo⟩
    case round =>
     have hgs := HGS.out g hGg
     have hws := hcg.size
     clear hmo hp1 hown hb2 hc2 hcg
     obtain ⟨k, hk, rfl, hcg, hown, hmo⟩ := hrel
     by_cases hkl : k < L
     · have hk1 : (k : Int) < L := by omega
       have hk0 : (0 : Int) ≤ k := by omega
       have hml := marksT_length i 0 L
       obtain ⟨y, hy⟩ : ∃ y, (marksT i 0 L)[k]'(by omega) = y := ⟨_, rfl⟩
       have hoi := hown i _ HV.out
       simp only [stepL, if_true] at hoi
       rw [halfL_length _ _ _ (by omega), hlen] at hoi
       have hset : (halfL i k (ls i)).set k y = halfL i (k+1) (ls i) := by
        have := halfL_set i k (ls i) (by omega)
        rw [← this, ← hy]
        congr 1
        simp only [hlen]
       have hmy : (txs (marksT i 0 L))[k]? = some (S y) := by
        rw [← hy]; simp [txs, List.getElem?_eq_getElem (show k < (marksT i 0 L).length by omega)]
       have HSET := Lib.hid hset
       have HMY := Lib.hid hmy
       have hhl := halfL_length i k (ls i) (by omega)
       have hch : ∃ u, (txs (halfL i k (ls i)))[k]? = some u := ⟨_, List.getElem?_eq_getElem (by simp [txs]; omega)⟩
       have HCH := Lib.hid hch
       have hmc : ∀ w' : World, Pu wr w' → w'.cell? ⟨gm, k, none⟩ = some (S y) := fun w' hp => by rw [(own_puQ hmo hp).cellAt k (by omega)]; exact HMY.out
       have hBc : ∀ w' : World, Pu wr w' → w'.cell? ⟨b, 0, none⟩ = some _ := fun w' hp => HB2.out w' (hcg.pu hp)
       have hVc : ∀ w' : World, Pu wr w' → w'.cell? ⟨q2, i, none⟩ = some _ := fun w' hp => HC2.out w' (hcg.pu hp) i _ HV.out
       have HMC := Lib.hid hmc
       have HBC := Lib.hid hBc
       have HVC := Lib.hid hVc
       clear hset hmy hy hhl hch hmc hBc hVc hml
       go_wp2_with fail
       apply region_last (n := 13) (hn := by kernel_rfl) (hlast := rfl) (hU := by kernel_rfl) (Φs := (Is _ :: Is _ :: Is _ :: Is _ :: Is _ :: Is _ :: Is _ :: Is _ :: Is _ :: Is _ :: Is _ :: Is _ :: Is _ :: [])) (hm := by kernel_rfl) (hE := by kernel_rfl) (hD := by kernel_rfl) (hsize := by kernel_rfl)
       case hop =>
        refine ⟨?_, ?_, ?_, ?_, ?_, ?_, ?_, ?_, ?_, ?_, ?_, ?_, ?_, trivial⟩
        · intro a' w' hs hp he
          have e0 := hs 0 (by kernel_rfl)
          try simp [Is, Region.binds] at he
          exact op_v
        · intro a' w' hs hp he
          try simp [Is, Region.binds] at he
          exact op_v
        · intro a' w' hs hp he
          try simp [Is, Region.binds] at he
          exact op_v
        · intro a' w' hs hp he
          try simp [Is, Region.binds] at he
          have hc := HBC.out _ hp; exact op_val rfl (wanted_none rfl) (by first | (go_simp; done) | (go_simp; rfl)) rfl (Below.refl _ _)
        · intro a' w' hs hp he
          have e2 := hs 2 (by kernel_rfl)
          try simp [Is, Region.binds] at he
          exact op_v
        · intro a' w' hs hp he
          try simp [Is, Region.binds] at he
          exact op_v
        · intro a' w' hs hp he
          try simp [Is, Region.binds] at he
          have hc := HVC.out _ hp; exact op_val rfl (wanted_none rfl) (by first | (go_simp; done) | (go_simp; rfl)) rfl (Below.refl _ _)
        · intro a' w' hs hp he
          have e4 := hs 4 (by kernel_rfl)
          try simp [Is, Region.binds] at he
          exact op_v
        · intro a' w' hs hp he
          have e3 := hs 3 (by kernel_rfl)
          try simp [Is, Region.binds] at he
          exact op_v
        · intro a' w' hs hp he
          have e4 := hs 4 (by kernel_rfl)
          try simp [Is, Region.binds] at he
          exact op_v
        · intro a' w' hs hp he
          try simp [Is, Region.binds] at he
          exact op_v
        · intro a' w' hs hp he
          try simp [Is, Region.binds] at he
          have hc := HMC.out _ hp; exact op_val rfl (wanted_none rfl) (by first | (go_simp; done) | (go_simp; rfl)) rfl (Below.refl _ _)
        · intro a' w' hs hp he
          try simp [Is, Region.binds] at he
          exact op_v
       case hend =>
        intro a' w' hdef hsz hs hp hall
        obtain ⟨r0, r1, r2, r3, r4, r5, r6, r7, r8, r9, r10, r11, r12, -⟩ := hall
        have hA := agree_done (agree_step (agree_step (agree_step (agree_step (agree_step (agree_step (agree_step (agree_step (agree_step (agree_step (agree_step (agree_step (agree_step (agree_init [30, 31, 32, 33, 34, 35, 36, 37, 38, 39, 40, 41, 42] hsz hs (by kernel_rfl)) r0) r1) r2) r3) r4) r5) r6) r7) r8) r9) r10) r11) r12)
        have ha := act_of hA hdef
        rw [ha]
        clear ha hA hs hsz hdef r0 r1 r2 r3 r4 r5 r6 r7 r8 r9 r10 r11 r12 
        (try simp only [List.setIfInBounds_toArray])
        (try dsimp only [List.set_cons_zero, List.set_cons_succ])
        (try simp only [Exit.then])
        have hown' := own_puQ hoi hp; obtain ⟨v0, hcl⟩ : ∃ v0, w'.cell? ⟨g, k, none⟩ = some v0 := (by obtain ⟨u0, hu0⟩ := HCH.out; exact ⟨u0, by rw [hown'.cellAt k (by omega)]; exact hu0⟩); have hf := hown'.frozenAt k; have hst := hown'.stored k (S y); rw [txs_set, HSET.out] at hst
        refine op_done rfl (wanted_none rfl) (by first | (go_simp; done) | (go_simp; rfl)) ?_
        (try simp only [Exit.inBlock, Exit.then])
        go_wp2_with fail
        go_roundw
        case rel => exact ⟨k + 1, by omega, by go_num, (hcg.pu hp).grown hst.2 hGg, by
         have := Own.step (hown.pu hp) HV.out HD.out hst.1 (by rw [halfL_length _ _ _ (by omega), hlen]) hst.2
         rw [stepL_stepL] at this
         exact this, (own_puQ hmo hp).kept hst.2 (Or.inr (by simp [Value.ownBlock]; omega))⟩
        case measure => simp [intOf]; omega
     · obtain rfl : k = L := by omega
       have hlk : decide ((k : Int) < k) = false := by simp
       have hfin : Own wr vs (doneL ls (i+1)) := by
        have h1 := halfL_all i (ls i)
        rw [hlen] at h1
        rw [h1] at hown
        have h2 := doneL_succ ls i
        rw [hlen] at h2
        rw [h2] at hown
        exact hown
       clear hown hmo
       go_wp2_with fail
       go_roundw
       case rel => exact ⟨i + 1, by omega, by go_num, hcg, hfin⟩
       case measure => simp [intOf]; omega
  · obtain rfl : i = vs.length := by omega
    have hlt' : decide ((vs.length : Int) < vs.length) = false := by simp
    go_wp2_with fail
    go_end0
    exact ⟨rfl, hcg, hown⟩
end Go.Proofs.YtoakccknimoogaaGreat
namespace Go.Proofs.YtoakccknimoogaaGreat
open Go.RowKit Go.Esc
theorem marksT_append (i f n m : Nat) : marksT i f n ++ marksT i (f+n) m = marksT i f (n+m) := by
 induction m with
 | zero => simp [marksT]
 | succ m ih => rw [marksT_succ, ← List.append_assoc, ih, ← Nat.add_assoc, marksT_succ, Nat.add_assoc]
/-- An append onto a row of the call's own: in one way, with what is known of the old block: its first cells stay. -/
theorem wpList_append_keep {P : Program} (w : World) {ops : Array Oper} {rest : List Oper} {o : Oper} {a : Act} {Q : Exit → Act → World → Prop}
 (hg : o.guard = none) (s x : Operand) (t : TypeId) (hop : o.op = Op.call { callee := Callee.builtin Builtin.append, args := #[s, x], argTypes := #[t, t] })
 (base : Nat) (e : TypeId) (i : TypeInfo) (z : Value) (bytes : Nat) (h1 : P.underlying t = some (.slice e)) (h2 : P.info? e = some i) (h3 : i.zero = some z) (h4 : i.size = 1) (h5 : i.bytes = bytes) (h6 : z.cells.size = 1)
 (g n cap : Nat) (xs : List Value) (hs : a.eval s = .slice (some ⟨g, 0, none⟩) n cap) (hown : w.ownsRow base e 1 (.slice (some ⟨g, 0, none⟩) n cap) n xs) (hxl : xs.length = n)
 (ad : Addr) (m c : Nat) (news : List Value) (hx : a.eval x = .slice (some ad) m c) (hn : news.length = m) (hc : ∀ j u, news[j]? = some u → w.cell? (ad.add j) = some u) (h1c : ∀ u ∈ news, u.oneCell' = true)
 (b1 : n + m ≤ maxLen) (b2 : (n + m) * bytes ≤ 140737488355328) (hb : base ≤ w.heap.size)
 (hK : ∀ g' cap' w', w'.ownsRow base e 1 (.slice (some ⟨g', 0, none⟩) (n + m) cap') (n + m) (xs ++ news) → w.grownBy w' (some g) → (∀ j, j < n → w'.cell? ⟨g, j, none⟩ = w.cell? ⟨g, j, none⟩) → (g' = g ∨ w.heap.size ≤ g') → wpList P ops Q rest (a.put o.dst (.slice (some ⟨g', 0, none⟩) (n + m) cap')) w')
 (h0 : 0 < n) : wpList P ops Q (o :: rest) a w := by
 have hold : ∀ j u, xs[j]? = some u → w.cell? ⟨g, 0 + j, none⟩ = some u := fun j u hj => by
  have hjl := (List.getElem?_eq_some_iff.1 hj).1
  rw [Nat.zero_add, hown.cellAt j (by omega)]; exact hj
 by_cases hr : n + m ≤ cap
 · refine wpList_append_fits w hg s x t hop base e i 1 h1 h2 h4 g n cap xs hs hown ad m c news hx (by omega) hc h1c hr fun w' ho hgr => hK g cap w' ho hgr (fun j hj => ?_) (.inl rfl)
   rw [ho.cellAt j (by omega), hown.cellAt j (by omega), List.getElem?_append_left (by omega)]
 · have hlt : g < w.heap.size := by obtain ⟨g', c', hv, _, hg'⟩ := own_form hown h0; cases hv; exact hg'
   refine wpList_append_arg w hg s x t hop e i z 1 bytes h1 h2 h3 h4 h5 h6 (by decide) g 0 n cap xs hs (by omega) hold ad m c news hx (by omega) hc h1c (fun h => absurd h hr) b1 b2 (fun h => absurd h hr) fun _ v' w' ho hgr => ?_
   obtain ⟨g', cap', rfl, hb', _⟩ := own_form ho (by omega)
   refine hK g' cap' w' ?_ ⟨hgr.os, hgr.tape, hgr.output, hgr.size, fun k hk _ => hgr.block k hk (by simp)⟩ (fun j _ => ?_) (.inr hb')
   · refine ⟨ho.1, ?_⟩
     rcases ho.2 with hh | ⟨g2, c2, cur, hv, hg2, rest2⟩
     · exact .inl hh
     · exact .inr ⟨g2, c2, cur, hv, by omega, rest2⟩
   · have := hgr.block g hlt (by simp)
     simp only [World.cell?, this]
/-- The slice v holds the values xs (it may be nothing, where there are none). -/
def HL (w : World) (v : Value) (xs : List Value) : Prop := ∃ a cap, v = .slice a xs.length cap ∧ (∀ g, v.ownBlock = some g → g < w.heap.size) ∧ (0 < xs.length → ∃ g, a = some ⟨g, 0, none⟩ ∧ ∀ j u, xs[j]? = some u → w.cell? ⟨g, j, none⟩ = some u)
theorem HL.pu {w w' : World} {v : Value} {xs : List Value} (h : HL w v xs) (hp : Pu w w') : HL w' v xs := by
 obtain ⟨a, cap, rfl, hg, hc⟩ := h
 refine ⟨a, cap, rfl, fun g e => Nat.lt_of_lt_of_le (hg g e) hp.size, fun h0 => ?_⟩
 obtain ⟨g, rfl, hd⟩ := hc h0
 exact ⟨g, rfl, fun j u hj => by rw [Below.cell hp (p := ⟨g, j, none⟩) (hg g rfl)]; exact hd j u hj⟩
theorem HL.grown {w w' : World} {v : Value} {xs : List Value} {row : Option Nat} (h : HL w v xs) (hp : w.grownBy w' row) (hne : ∀ g, v.ownBlock = some g → row ≠ some g) : HL w' v xs := by
 obtain ⟨a, cap, rfl, hg, hc⟩ := h
 refine ⟨a, cap, rfl, fun g e => Nat.lt_of_lt_of_le (hg g e) hp.size, fun h0 => ?_⟩
 obtain ⟨g, rfl, hd⟩ := hc h0
 refine ⟨g, rfl, fun j u hj => ?_⟩
 have := hp.block g (hg g rfl) (fun e => hne g rfl e.symm)
 simp only [World.cell?, this]
 exact hd j u hj
theorem HL.keep {w w' : World} {v : Value} {xs : List Value} {q n : Nat} (h : HL w v xs) (hp : w.grownBy w' (some q)) (hk : ∀ j, j < n → w'.cell? ⟨q, j, none⟩ = w.cell? ⟨q, j, none⟩) (hn : xs.length ≤ n) : HL w' v xs := by
 by_cases he : v.ownBlock = some q
 · obtain ⟨a, cap, rfl, hg, hc⟩ := h
   refine ⟨a, cap, rfl, fun g e => Nat.lt_of_lt_of_le (hg g e) hp.size, fun h0 => ?_⟩
   obtain ⟨g, rfl, hd⟩ := hc h0
   obtain rfl : g = q := by simpa [Value.ownBlock] using he
   refine ⟨g, rfl, fun j u hj => ?_⟩
   have hjl := (List.getElem?_eq_some_iff.1 hj).1
   rw [hk j (by omega)]
   exact hd j u hj
 · exact h.grown hp (fun g e e' => he (by rw [e, e']))
/-- Of a list with nothing in it nothing can change. -/
theorem HL.zero {w w' : World} {v : Value} {xs : List Value} (h : HL w v xs) (hp : w.heap.size ≤ w'.heap.size) (h0 : xs.length = 0) : HL w' v xs := by
 obtain ⟨a, cap, rfl, hg, hc⟩ := h
 exact ⟨a, cap, rfl, fun g e => Nat.lt_of_lt_of_le (hg g e) hp, fun h1 => by omega⟩
theorem HL.own {w : World} {B e n : Nat} {v : Value} {xs : List Value} (h : w.ownsRow B e 1 v n xs) (hl : xs.length = n) : HL w v xs := by
 obtain ⟨a, cap, rfl, hlt⟩ := own_slice h
 subst hl
 refine ⟨a, cap, rfl, fun g e => (hlt g e).2, fun h0 => ?_⟩
 obtain ⟨g, cap', hv, _, hg⟩ := own_form h h0
 cases hv
 exact ⟨g, rfl, fun j u hj => by
  have hjl := (List.getElem?_eq_some_iff.1 hj).1
  rw [h.cellAt j (by omega)]; exact hj⟩
theorem HL.lt {w : World} {v : Value} {xs : List Value} (h : HL w v xs) {q : Nat} (hq : v.ownBlock = some q) : q < w.heap.size := by
 obtain ⟨a, cap, rfl, hg, _⟩ := h
 exact hg q hq
theorem HL.cells {w : World} {g n cap : Nat} {xs : List Value} (h : HL w (.slice (some ⟨g, 0, none⟩) n cap) xs) : ∀ j u, xs[j]? = some u → w.cell? ((⟨g, 0, none⟩ : Addr).add j) = some u := by
 obtain ⟨a, cap', hv, _, hc⟩ := h
 cases hv
 intro j u hj
 have hjl := (List.getElem?_eq_some_iff.1 hj).1
 obtain ⟨g', hg, hc⟩ := hc (by omega)
 cases hg
 have := hc j u hj; cases j <;> simpa [Addr.add] using this
theorem HL.li {w : World} {v : Value} {l : List Bs} (h : HL w v (txs l)) (hl : l.length ≤ 100000) : LT w v l := by
 obtain ⟨a, cap, rfl, hg, hc⟩ := h
 refine ⟨a, cap, by simp [txs], hl, fun h0 => ?_⟩
 obtain ⟨g, rfl, hd⟩ := hc (by simpa [txs] using h0)
 exact ⟨g, rfl, hg g rfl, hd⟩
/-- What does not change of the lists. -/
structure Fix (G : Nat → Prop) (w0 : World) (vs : List Value) : Prop where
 below : ∀ g, G g → g < w0.heap.size
 of : ∀ (j : Nat) (v : Value) (g : Nat), vs[j]? = some v → v.ownBlock = some g → G g
 apart : ∀ (a b : Nat) (u v : Value), a ≠ b → vs[a]? = some u → vs[b]? = some v → u.ownBlock = none ∨ u.ownBlock ≠ v.ownBlock
/-- The lists vs, of which those before i are grown (into us), those from k on are not yet. -/
structure Gs (G : Nat → Prop) (E T : TypeId) (mk : Nat → Nat → List Value) (n : Nat → Nat) (w0 w : World) (vs : List Value) (i k : Nat) (out : Value) (us : List Value) : Prop where
 cg : Cg G w0 w
 own : w.ownsRow w0.heap.size T 1 out us.length us
 todo : ∀ (j : Nat) (v : Value), k ≤ j → vs[j]? = some v → w.ownsRow 0 E 1 v (n j) (mk j (n j))
 old : ∀ (j : Nat) (v : Value), j < i → vs[j]? = some v → HL w v (mk j (n j))
 new : ∀ (j : Nat) (u : Value), us[j]? = some u → HL w u (mk j (n j + 72)) ∧ out.ownBlock ≠ u.ownBlock ∧ ∃ q, u.ownBlock = some q ∧ (w0.heap.size ≤ q ∨ ∃ v, vs[j]? = some v ∧ v.ownBlock = some q)
section
variable {G : Nat → Prop} {E T : TypeId} {mk : Nat → Nat → List Value} {n : Nat → Nat} {w0 w : World} {vs : List Value} {i k : Nat} {out : Value} {us : List Value}
theorem Gs.pu (h : Gs G E T mk n w0 w vs i k out us) {w' : World} (hp : Pu w w') : Gs G E T mk n w0 w' vs i k out us :=
 ⟨h.cg.pu hp, own_puQ h.own hp, fun j v hj hv => own_puQ (h.todo j v hj hv) hp, fun j v hj hv => (h.old j v hj hv).pu hp, fun j u hj => ⟨(h.new j u hj).1.pu hp, (h.new j u hj).2⟩⟩
theorem Gs.next (h : Gs G E T mk n w0 w vs i i out us) : Gs G E T mk n w0 w vs i (i+1) out us :=
 ⟨h.cg, h.own, fun j v hj hv => h.todo j v (by omega) hv, h.old, h.new⟩
theorem Fix.ne (hF : Fix G w0 vs) {q : Nat} {vi : Value} (hvi : vs[i]? = some vi) (hq : w0.heap.size ≤ q ∨ vi.ownBlock = some q) {j : Nat} {v : Value} (hj : vs[j]? = some v) (hne : j ≠ i) : v.ownBlock = none ∨ v.ownBlock ≠ some q := by
 cases hv : v.ownBlock with
 | none => exact .inl rfl
 | some g =>
   refine .inr fun e => ?_
   cases e
   rcases hq with h1 | h1
   · have := hF.below _ (hF.of j v q hj hv); omega
   · rcases hF.apart j i v vi hne hj hvi with h2 | h2
     · rw [h2] at hv; cases hv
     · exact h2 (by rw [hv, h1])
theorem Gs.grow (hF : Fix G w0 vs) (h : Gs G E T mk n w0 w vs i (i+1) out us) {row : Option Nat} {w' : World} {vi : Value} (hvi : vs[i]? = some vi) (hg : w.grownBy w' row) (hq : ∀ q, row = some q → w0.heap.size ≤ q ∨ vi.ownBlock = some q)
 (ho : ∀ q, row = some q → out.ownBlock ≠ some q) (hu : ∀ q, row = some q → ∀ (j : Nat) (u : Value), us[j]? = some u → u.ownBlock ≠ some q) : Gs G E T mk n w0 w' vs i (i+1) out us := by
 have hbl : ∀ (j : Nat) (v : Value), vs[j]? = some v → j ≠ i → v.ownBlock = none ∨ v.ownBlock ≠ row := fun j v hv hji => by
  cases row with
  | none => cases hb : v.ownBlock with | none => exact .inl rfl | some g => exact .inr (fun e => nomatch e)
  | some q => exact hF.ne hvi (hq q rfl) hv hji
 refine ⟨h.cg.grown' hg ?_, h.own.kept hg ?_, fun j v hj hv => (h.todo j v hj hv).kept hg (hbl j v hv (by omega)), fun j v hj hv => (h.old j v hj hv).grown hg ?_, fun j u hj => ⟨(h.new j u hj).1.grown hg (fun g e e' => hu g e' j u hj e), (h.new j u hj).2⟩⟩
 · intro q' e
   rcases hq q' e with h1 | h1
   · exact .inr h1
   · exact .inl (hF.of i vi q' hvi h1)
 · cases row with
   | none => cases hb : out.ownBlock with | none => exact .inl rfl | some g => exact .inr (fun e => nomatch e)
   | some q => exact .inr (ho q rfl)
 · intro g e e'
   rcases hbl j v hv (by omega) with h1 | h1
   · rw [h1] at e; cases e
   · exact h1 (by rw [e, e'])
theorem Gs.push (hF : Fix G w0 vs) (h : Gs G E T mk n w0 w vs i (i+1) out us) (hl : us.length = i) {q : Nat} {w' : World} {vi u out' : Value} (hvi : vs[i]? = some vi) (hHi : HL w vi (mk i (n i))) (hu : HL w u (mk i (n i + 72)))
 (hb : u.ownBlock = some q) (hq : w0.heap.size ≤ q ∨ vi.ownBlock = some q) (ho : out.ownBlock ≠ some q)
 (hown : w'.ownsRow w0.heap.size T 1 out' (us.length + 1) (us ++ [u])) (hg : w.grownBy w' out.ownBlock) (hat : out'.ownBlock = out.ownBlock ∨ out'.ownBlock = some w.heap.size) :
 Gs G E T mk n w0 w' vs (i+1) (i+1) out' (us ++ [u]) := by
 have hob : ∀ (j : Nat) (v : Value), vs[j]? = some v → v.ownBlock = none ∨ v.ownBlock ≠ out.ownBlock := fun j v hj => by
  cases hv : v.ownBlock with
  | none => exact .inl rfl
  | some g =>
    refine .inr fun e => ?_
    have h1 := hF.below _ (hF.of j v g hj hv)
    have h2 := (h.own.lt g e.symm).1
    omega
 have hob' : ∀ (v : Value) (xs : List Value), HL w v xs → v.ownBlock ≠ out.ownBlock → out'.ownBlock ≠ v.ownBlock := fun v xs hv hne e => by
  rcases hat with h1 | h1
  · exact hne (e.symm.trans h1)
  · have := hv.lt (e.symm.trans h1); omega
 have hold : ∀ (j : Nat) (v : Value), j < i + 1 → vs[j]? = some v → HL w' v (mk j (n j)) := fun j v hj hv => by
  have hw : HL w v (mk j (n j)) := by
   by_cases hji : j = i
   · subst hji; rw [hvi] at hv; cases hv; exact hHi
   · exact h.old j v (by omega) hv
  refine hw.grown hg fun g e e' => ?_
  rcases hob j v hv with h1 | h1
  · rw [h1] at e; cases e
  · exact h1 (by rw [e, e'])
 refine ⟨h.cg.grown' hg fun q' e => .inr (h.own.lt q' e).1, by simpa using hown, fun j v hj hv => (h.todo j v hj hv).kept hg (hob j v hv), hold, fun j x hj => ?_⟩
 by_cases hji : j < us.length
 · rw [List.getElem?_append_left hji] at hj
   obtain ⟨h1, h2, h3⟩ := h.new j x hj
   exact ⟨h1.grown hg (fun g e e' => h2 (by rw [e, e'])), hob' x _ h1 (Ne.symm h2), h3⟩
 · have hj2 := (List.getElem?_eq_some_iff.1 hj).1
   simp at hj2
   obtain rfl : j = us.length := by omega
   simp at hj
   subst hj
   rw [hl]
   have hne : u.ownBlock ≠ out.ownBlock := fun e => ho (by rw [← e, hb])
   refine ⟨hu.grown hg (fun g e e' => hne (by rw [e, e'])), hob' u _ hu hne, q, hb, ?_⟩
   rcases hq with h1 | h1
   · exact .inl h1
   · exact .inr ⟨vi, hvi, h1⟩
end
end Go.Proofs.YtoakccknimoogaaGreat
