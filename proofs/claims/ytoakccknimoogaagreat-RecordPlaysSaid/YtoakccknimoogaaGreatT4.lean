/- Package mac: Same; counters that count as one. One block mixed in. Contracts of sync.Once, sync.Mutex and the atomics, one goroutine. The contract of sync.Once's Do, the first time, for whatever closure. Worlds that differ in new blocks and in one. The table of a digest is made. The table of a digest is made, once. The shelf's contract of internal/stringslite.Clone at this dump, in plain words (the table as the kit's tools wrote it). Contracts of package digest. Plain laws on blocks of bytes. In a region that draws: whole values loaded and stored. -/
import Derived.Test.YtoakccknimoogaaGreatT3
import Derived.Test.YtoakccknimoogaaGreatProg
import Derived.WalkKit
import Derived.Lib.Hide
import Derived.Shelf.Strconv.Clone
set_option linter.unusedSimpArgs false
set_option linter.unusedVariables false
set_option linter.unusedSimpArgs false
set_option linter.unusedVariables false
namespace Go.Esc
open Go Go.RowKit
theorem xorL_zero {a b : Bs} (h : a.length = b.length) : (∀ (k : Nat) (h1 : k < (xorL a b).length), (xorL a b)[k] = 0) ↔ a = b := by
 constructor
 · intro hz
   apply List.ext_getElem h
   intro k h1 h2
   have h3 := hz k (by rw [xorL_length]; omega)
   simp only [xorL, List.getElem_zipWith] at h3
   exact UInt8.xor_eq_zero_iff.1 h3
 · rintro rfl k h1
   simp only [xorL, List.getElem_zipWith]
   exact UInt8.xor_self
end Go.Esc
namespace Go.Proofs.YtoakccknimoogaaGreat
open Go.RowKit Go.Esc
set_option maxRecDepth 100000 in
set_option maxHeartbeats 1600000 in
theorem add64 (a : Addr) (x : Int) (w : World) (hx : 0 ≤ x ∧ x < 1000000000) (hc : w.cell? a = some (.int .i64 x)) (hz : w.frozen? a = false) :
 Calls Tryz.prog 24 #[.pointer (some a), .int .i64 1] w fun e w' => e = .returned (.int .i64 (x + 1)) ∧ w' = w.setCell a (.int .i64 (x + 1)) := by
 have hs : (Op.intArith .add .i64 x 1).run Tryz.prog w = .ok (.int .i64 (x + 1)) w := by
  have : IntKind.i64.wrap (x + 1) = x + 1 := by rw [IntKind.wrap_i64]; omega
  show (Sem.pure (Value.int .i64 (IntKind.i64.wrap (x + 1)))).run _ w = _
  rw [this]; rfl
 have hadd := run_call_add (P := Tryz.prog) Tryz.func75 (by kernel_rfl) (by kernel_rfl) (by kernel_rfl) .i64 (by kernel_rfl) (y := 1) hc hz hs
 go_enter Tryz.func24, Tryz.ntmps24
 go_wp2_with fail
 go_ret
 exact ⟨rfl, rfl⟩
set_option maxRecDepth 100000 in
theorem load64 (a : Addr) (x : Int) (w : World) (hc : w.cell? a = some (.int .i64 x)) :
 Calls Tryz.prog 30 #[.pointer (some a)] w fun e w' => e = .returned (.int .i64 x) ∧ w' = w := by
 have hl := run_call_load (P := Tryz.prog) Tryz.func85 (by kernel_rfl) (by kernel_rfl) (by kernel_rfl) .i64 (by kernel_rfl) hc
 go_enter Tryz.func30, Tryz.ntmps30
 go_wp2_with fail
 go_ret
 exact ⟨rfl, rfl⟩
set_option maxRecDepth 100000 in
set_option maxHeartbeats 1600000 in
theorem same (a b : Bs) (h : a.length ≤ 1000000) (h2 : b.length ≤ 1000000) (w : World) :
 Calls Tryz.prog 131 #[S a, S b] w fun e w' => e = .returned (.bool (decide (a = b))) ∧ Pu w w' := by
 have hx := fun w => xor a b (.inl h) w
 obtain ⟨z, hz⟩ : ∃ z, z = xorL a b := ⟨_, rfl⟩
 have hzl : z.length ≤ 1000000 := by rw [hz, xorL_length]; omega
 rw [← hz] at hx
 have HX := Lib.hid hx
 have HZ := Lib.hid hz
 clear hx hz
 go_enter Tryz.func131, Tryz.ntmps131
 go_wp2_with (first
  | (go_at_call 113; refine (HX.out _).mono ?_; rintro e w1 ⟨rfl, hp1⟩)
  | (refine wpList_bytes _ rfl (.tmp 10) 9 51 5 rfl z (by first | rfl | simp [Act.eval]) Tryz.underlying9 Tryz.underlying51 Tryz.underlying5 ?_; intro w2 cap hrow hpu hcap))
 have hr0 := ((Row.newAt w w.heap.size _ _ rfl rfl).pu hp1).pu hpu
 have hb0 := (((Pu.refl w).alloc _).trans hp1).trans hpu
 have hs1 := hp1.size
 have hs0 : w.heap.size < w1.heap.size := by simp at hs1; omega
 clear hp1 hpu hcap hs1
 go_loopw [13] (fun i wr => ∃ (k x : Nat), k ≤ z.length ∧ x ≤ k ∧ (x = 0 ↔ ∀ j, j < k → z.getD j 0 = 0) ∧ i = .int .i64 (k : Int) ∧ Row wr w.heap.size 66 [.int .i64 (x : Int)] ∧ Row wr w1.heap.size 5 (cells z) ∧ Below w.heap.size w wr) (fun i _ => z.length - (intOf i).toNat)
 case atStart => exact ⟨0, 0, by omega, by omega, ⟨fun _ j h => absurd h (by omega), fun _ => rfl⟩, rfl, hr0, hrow, hb0⟩
 case round =>
  clear hr0 hrow hb0
  obtain ⟨k, x, hk, hxk, hiff, rfl, hr, hrow, hbel⟩ := hrel
  by_cases hlt : k < z.length
  · obtain ⟨c, hc⟩ : ∃ c, z[k] = c := ⟨_, rfl⟩
    have hcc := Row.byte hrow k hlt
    rw [hc] at hcc
    have hgk : z.getD k 0 = c := by simp [List.getD_eq_getElem?_getD, List.getElem?_eq_getElem hlt, hc]
    have HI := Lib.hid hiff
    have HGK := Lib.hid hgk
    clear hc hgk hiff
    by_cases hcz : c = 0
    · subst hcz
      go_wp2_with fail
      go_roundw
      case rel =>
       refine ⟨k + 1, x, by omega, by omega, ?_, by go_num, hr, hrow, hbel⟩
       rw [HI.out]
       constructor
       · intro h j hj
         by_cases hjk : j = k
         · subst hjk; exact HGK.out
         · exact h j (by omega)
       · intro h j hj; exact h j (by omega)
      case measure => simp [intOf]; omega
    · have hne : ¬ ((c.toNat : Int) = 0) := by
       intro h
       exact hcz (UInt8.toNat_inj.1 (by simpa using (by omega : c.toNat = 0)))
      have hne2 : ((c.toNat : Int) == 0) = false := by simp; intro h; exact hne (by omega)
      have c0 := hr.cell 0 (by simp)
      have f0 := hr.frozen 0 (by simp)
      simp at c0
      go_wp2_with (go_at_call 24; refine (add64 ⟨w.heap.size, 0, none⟩ (x : Int) _ (by omega) c0 f0).mono ?_; rintro e w3 ⟨rfl, rfl⟩)
      go_roundw
      case rel =>
       refine ⟨k + 1, x + 1, by omega, by omega, ?_, by go_num, ?_, hrow.setOther _ _ (by simp; omega), hbel.setCell (by simp) _⟩
       · constructor
         · intro h; omega
         · intro h; exact absurd ((HGK.out).symm.trans (h k (by omega))) hcz
       · exact hr.set 0 _
      case measure => simp [intOf]; omega
  · obtain rfl : k = z.length := by omega
    have c0 := hr.cell 0 (by simp)
    simp at c0
    have hfin : ∀ hl : a.length = b.length, (x = 0 ↔ a = b) := by
     intro hl
     rw [hiff, ← xorL_zero hl, ← HZ.out]
     constructor
     · intro h k hk
       have := h k hk
       rwa [List.getD_eq_getElem?_getD, List.getElem?_eq_getElem hk] at this
     · intro h k hk
       rw [List.getD_eq_getElem?_getD, List.getElem?_eq_getElem hk]; exact h k hk
    have HF := Lib.hid hfin
    clear hfin hiff
    by_cases hx0 : x = 0
    · by_cases hl : a.length = b.length
      · have hd : decide (a = b) = true := by simp; exact (HF.out hl).1 hx0
        have hl' : (a.length : Int) = b.length := by omega
        subst hx0
        have HD := Lib.hid hd
        clear hd
        go_wp2_with (go_at_call 30; refine (load64 ⟨w.heap.size, 0, none⟩ _ _ c0).mono ?_; rintro e w3 ⟨rfl, rfl⟩)
        go_ret
        exact ⟨by rw [HD.out]; rfl, hbel⟩
      · have hd : decide (a = b) = false := by simp; rintro rfl; exact hl rfl
        have hl' : ¬ ((a.length : Int) = b.length) := by omega
        have hl2 : ((a.length : Int) == b.length) = false := by simp; omega
        subst hx0
        have HD := Lib.hid hd
        clear hd
        go_wp2_with (go_at_call 30; refine (load64 ⟨w.heap.size, 0, none⟩ _ _ c0).mono ?_; rintro e w3 ⟨rfl, rfl⟩)
        go_ret
        exact ⟨by rw [HD.out]; rfl, hbel⟩
    · have hd : decide (a = b) = false := by
       simp; rintro rfl; exact hx0 ((HF.out rfl).2 rfl)
      have hxi : ¬ ((x : Int) = 0) := by omega
      have hxi2 : ((x : Int) == 0) = false := by simp; omega
      have HD := Lib.hid hd
      clear hd
      go_wp2_with (go_at_call 30; refine (load64 ⟨w.heap.size, 0, none⟩ _ _ c0).mono ?_; rintro e w3 ⟨rfl, rfl⟩)
      go_ret
      exact ⟨by rw [HD.out]; rfl, hbel⟩
end Go.Proofs.YtoakccknimoogaaGreat
set_option linter.unusedSimpArgs false
set_option linter.unusedVariables false
namespace Go.Proofs.YtoakccknimoogaaGreat
open Go.RowKit Go.Esc
theorem Row.st {w : World} {g : Nat} {e : TypeId} {s : St} (h : Row w g e (vs s.l)) : w.cell? ⟨g, 0, none⟩ = some (V s.a) ∧ w.cell? ⟨g, 1, none⟩ = some (V s.b) ∧ w.cell? ⟨g, 2, none⟩ = some (V s.c) ∧ w.cell? ⟨g, 3, none⟩ = some (V s.d) ∧
 w.cell? ⟨g, 4, none⟩ = some (V s.e) ∧ w.cell? ⟨g, 5, none⟩ = some (V s.f) ∧ w.cell? ⟨g, 6, none⟩ = some (V s.g) ∧ w.cell? ⟨g, 7, none⟩ = some (V s.h) :=
 ⟨h.cell 0 (by simp [vs, St.l]), h.cell 1 (by simp [vs, St.l]), h.cell 2 (by simp [vs, St.l]), h.cell 3 (by simp [vs, St.l]), h.cell 4 (by simp [vs, St.l]), h.cell 5 (by simp [vs, St.l]), h.cell 6 (by simp [vs, St.l]), h.cell 7 (by simp [vs, St.l])⟩
/-- The cells of a table that is made. -/
def tableCells : List Value := [.int .u32 1, .int .i32 0, .int .u32 0] ++ vs kTab ++ vs hTab
theorem kTab_length : kTab.length = 64 := rfl
theorem hTab_length : hTab.length = 8 := rfl
theorem Row.k {w : World} {g : Nat} {e : TypeId} (h : Row w g e tableCells) (i : Nat) (hi : i < 64) : w.cell? ⟨g, 3 + i, none⟩ = some (V (kTab.getD i 0)) := by
 rw [h.cell' (3 + i) (by simp [tableCells, vs_length, kTab_length, hTab_length]; omega)]
 rw [tableCells, List.append_assoc, List.getElem?_append_right (by simp), List.getElem?_append_left (by rw [vs_length, kTab_length]; simp; omega)]
 simp only [List.length_cons, List.length_nil]
 rw [show 3 + i - (0 + 1 + 1 + 1) = i by omega, vs_get _ _ (by rw [kTab_length]; exact hi)]
def addTo (x s : List Wd) (j : Nat) : List Wd := (List.range 8).map fun i => if i < j then x.getD i 0 + s.getD i 0 else x.getD i 0
theorem addTo_length (x s : List Wd) (j : Nat) : (addTo x s j).length = 8 := by simp [addTo]
theorem addTo_set (x s : List Wd) (j : Nat) (_ : j < 8) : (addTo x s j).set j (x.getD j 0 + s.getD j 0) = addTo x s (j+1) := by
 apply List.ext_getElem
 · simp [addTo]
 · intro i h1 h2
   simp only [addTo_length, List.length_set] at h1 h2
   rw [List.getElem_set]
   simp only [addTo, List.getElem_map, List.getElem_range]
   by_cases h : j = i
   · subst h; simp
   · rw [if_neg h]
     by_cases h3 : i < j
     · rw [if_pos h3, if_pos (by omega)]
     · rw [if_neg h3, if_neg (by omega)]
theorem addTo_get (x s : List Wd) (j : Nat) (hj : j < 8) : (addTo x s j).getD j 0 = x.getD j 0 := by
 simp [addTo, hj]
theorem addTo_all (x s : St) : addTo x.l s.l 8 = (x.add s).l := rfl
theorem wd_max (a : BitVec 32) : Go.bits .xor .u32 IntKind.u32.max (wd a) = wd (~~~a) := wd_not a
attribute [go_sem] wd_max
theorem rounds_succ (w : List Wd) (s : St) (n : Nat) : rounds w s (n+1) = Esc.step (rounds w s n) (kTab.getD n 0) (w.getD n 0) := by
 simp [rounds, List.range_succ]
set_option maxRecDepth 100000 in
set_option maxHeartbeats 1000000 in
theorem mix (tb : Nat) (te : TypeId) (s : St) (sl : List Value) (hsl : sl = vs s.l) (b : Bs) (hb : b.length = 64) (w : World) (htab : Row w tb te tableCells) :
 Calls Tryz.prog 190 #[.pointer (some ⟨tb, 0, none⟩), .agg sl.toArray, S b] w fun e w' => ∃ l, l = vs (comp s b).l ∧ e = .returned (.agg l.toArray) ∧ Pu w w' := by
 have hsc := fun w => schedule b hb w
 have HS := Lib.hid hsc
 have HSL := Lib.hid hsl
 have hi64 : (Tryz.prog.info? 225).map (·.size) = some 64 := by kernel_rfl
 have hi8 : (Tryz.prog.info? 232).map (·.size) = some 8 := by kernel_rfl
 clear hsc hsl
 obtain ⟨res, hres⟩ : ∃ m, m = comp s b := ⟨_, rfl⟩
 rw [← hres]
 have HRES := Lib.hid hres
 have HTAB := Lib.hid htab
 clear hres htab
 have hsl8 : sl.length = 8 := by rw [HSL.out]; rfl
 have hone : sl.all (·.oneCell') = true := by rw [HSL.out]; rfl
 have htk : ((sl.drop 0).take 8) = sl := by rw [List.drop_zero, List.take_of_length_le (by omega)]
 go_enter Tryz.func190, Tryz.ntmps190
 go_wp2_with (first
  | (refine wpList_box rfl 232 (.tmp 1) rfl sl (by rfl) ?_; intro w0 hrs hp0 hz0)
  | (go_at_call 194; refine (HS.out _).mono ?_; rintro e w1 ⟨l, hl, rfl, hp1⟩; have HL := Lib.hid hl; clear hl
     have hl64 : l.length = 64 := by rw [HL.out, vs_length, sched_length]
     have hlone : l.all (·.oneCell') = true := by rw [HL.out]; simp [vs, Value.oneCell']
     have hG : w.heap.size + 2 ≤ w1.heap.size := by have h1 := hp1.size; simp at h1; omega
     have htab1 := ((HTAB.out.pu hp0).alloc _).pu hp1
     have hrs1 := (hrs.alloc _).pu hp1
     have hrb1 := (Row.newAt w0 (w.heap.size+1) _ _ hz0 rfl).pu hp1
     have hb1 : Below w.heap.size w w1 := (hp0.trans ((Pu.refl _).alloc _)).trans hp1
     clear hp1 hp0 hrs)
  | (refine wpList_store_part rfl 225 (.tmp 7) (.tmp 20) rfl w1.heap.size 0 l (by rfl) (by rfl) (Row.new _ _ _) (by rw [hl64]; exact hi64) (by rw [hl64]; decide) hlone ?_; intro w2 hrw hch2
     rw [splice_all (by rw [hl64]; rfl)] at hrw
     have hz2 : w2.heap.size = w1.heap.size + 1 := by rw [hch2.size]; simp
     have htab2 := hch2.row (htab1.alloc _) (by have := htab1.lt; have := HTAB.out.lt; omega)
     have hrs2 := hch2.row (hrs1.alloc _) (by omega)
     have hrb2 := hch2.row (hrb1.alloc _) (by omega)
     have hb2 : Below w.heap.size w w2 := hch2.below (hb1.alloc (by omega) _) (by omega)
     clear htab1 hrs1 hrb1 hb1 hch2)
  | (refine wpList_load_part rfl 232 (.tmp 4) rfl w.heap.size 0 8 (by rfl) hrs2 Tryz.underlying232 rfl hi8 (by omega) ?_; rw [htk])
  | (refine wpList_store_part rfl 232 (.tmp 8) (.tmp 21) rfl (w1.heap.size+1) 0 sl (by rfl) (by rfl) (Row.newAt w2 (w1.heap.size+1) _ _ hz2 rfl) (by rw [hsl8]; exact hi8) (by rw [hsl8]; decide) hone ?_; intro w3 hx hch3
     rw [splice_all (by rw [hsl8]; rfl)] at hx
     have htab3 := hch3.row (htab2.alloc _) (by have := HTAB.out.lt; omega)
     have hrs3 := hch3.row (hrs2.alloc _) (by omega)
     have hrb3 := hch3.row (hrb2.alloc _) (by omega)
     have hrw3 := hch3.row (hrw.alloc _) (by omega)
     have hb3 : Below w.heap.size w w3 := hch3.below (hb2.alloc (by omega) _) (by omega)
     clear htab2 hrs2 hrb2 hb2 hch3 hrw))
 rw [HSL.out] at hx
 obtain ⟨sc, hsc⟩ : ∃ sc, sc = sched b 64 := ⟨_, rfl⟩
 have hscl : sc.length = 64 := by rw [hsc, sched_length]
 have HSC := Lib.hid hsc
 have hrw4 : Row w3 w1.heap.size 225 (vs sc) := by rw [hsc, ← HL.out]; exact hrw3
 have hcall : ∀ args w, (callFunc 195 args).run Tryz.prog w = .ok (.enter 195 args) w := fun args w => run_callFunc_body Tryz.func195 (by kernel_rfl) (by kernel_rfl) args w
 clear hsc hrw3
 go_loopw [22] (fun i wr => ∃ n : Nat, n ≤ 64 ∧ i = .int .i64 n ∧ Row wr tb te tableCells ∧ Row wr w.heap.size 232 sl ∧ Row wr (w.heap.size+1) 232 (List.replicate 8 (.int .u32 0)) ∧ Row wr w1.heap.size 225 (vs sc) ∧ Row wr (w1.heap.size+1) 232 (vs (rounds sc s n).l) ∧ Below w.heap.size w wr) (fun i _ => 64 - (intOf i).toNat)
 case atStart => exact ⟨0, by omega, rfl, htab3, hrs3, hrb3, hrw4, hx, hb3⟩
 case round =>
  clear htab3 hrs3 hrb3 hrw4 hx hb3
  obtain ⟨n, hn, rfl, htab, hrs, hrb, hrw, hx, hbel⟩ := hrel
  by_cases hlt : n < 64
  · have hstep := rounds_succ sc s n
    obtain ⟨x, hxe⟩ : ∃ x, x = rounds sc s n := ⟨_, rfl⟩
    obtain ⟨kn, hkn⟩ : ∃ kn, kn = kTab.getD n 0 := ⟨_, rfl⟩
    obtain ⟨wn, hwn⟩ : ∃ wn, wn = sc.getD n 0 := ⟨_, rfl⟩
    rw [← hxe, ← hkn, ← hwn] at hstep
    rw [← hxe] at hx
    have HKN := Lib.hid hkn
    have HWN := Lib.hid hwn
    have HST := Lib.hid hstep
    have HXE := Lib.hid hxe
    have h0n : (0 : Int) ≤ n := by omega
    have h64n : (n : Int) < 64 := by omega
    have ht0 := HTAB.out.lt
    clear hstep hxe hkn hwn
    go_wp2_with fail
    apply region_pu (Φs := (Is _ :: Is _ :: Is _ :: Is _ :: Is _ :: Is _ :: Is _ :: Is _ :: Is _ :: [])) (hm := by kernel_rfl) (hE := by kernel_rfl) (hD := by kernel_rfl) (hsize := by kernel_rfl)
    case hop =>
     refine ⟨?_, ?_, ?_, ?_, ?_, ?_, ?_, ?_, ?_, trivial⟩
     · intro a' w' hs hp he
       have e8 := hs 8 (by kernel_rfl)
       try simp [Is, Region.binds] at he
       exact op_v
     · intro a' w' hs hp he
       try simp [Is, Region.binds] at he
       obtain ⟨c0, c1, c2, c3, c4, c5, c6, c7⟩ := Row.st (hx.pu hp); exact op_val rfl (wanted_none rfl) (by first | (go_simp; done) | (go_simp; rfl)) rfl (Pu.refl _)
     · intro a' w' hs hp he
       have e8 := hs 8 (by kernel_rfl)
       try simp [Is, Region.binds] at he
       exact op_v
     · intro a' w' hs hp he
       try simp [Is, Region.binds] at he
       obtain ⟨c0, c1, c2, c3, c4, c5, c6, c7⟩ := Row.st (hx.pu hp); exact op_val rfl (wanted_none rfl) (by first | (go_simp; done) | (go_simp; rfl)) rfl (Pu.refl _)
     · intro a' w' hs hp he
       have e8 := hs 8 (by kernel_rfl)
       try simp [Is, Region.binds] at he
       exact op_v
     · intro a' w' hs hp he
       try simp [Is, Region.binds] at he
       obtain ⟨c0, c1, c2, c3, c4, c5, c6, c7⟩ := Row.st (hx.pu hp); exact op_val rfl (wanted_none rfl) (by first | (go_simp; done) | (go_simp; rfl)) rfl (Pu.refl _)
     · intro a' w' hs hp he
       try simp [Is, Region.binds] at he
       exact op_v
     · intro a' w' hs hp he
       try simp [Is, Region.binds] at he
       exact op_v
     · intro a' w' hs hp he
       try simp [Is, Region.binds] at he
       exact op_v
    case hend =>
     intro a' w' hdef hsz hs hp hall
     obtain ⟨r0, r1, r2, r3, r4, r5, r6, r7, r8, -⟩ := hall
     have hA := agree_done (agree_step (agree_step (agree_step (agree_step (agree_step (agree_step (agree_step (agree_step (agree_step (agree_init [25, 26, 27, 28, 29, 30, 10, 11, 12] hsz hs (by kernel_rfl)) r0) r1) r2) r3) r4) r5) r6) r7) r8)
     have ha := act_of hA hdef
     rw [ha]
     clear ha hA hs hsz hdef r0 r1 r2 r3 r4 r5 r6 r7 r8 
     (try simp only [List.setIfInBounds_toArray])
     (try dsimp only [List.set_cons_zero, List.set_cons_succ])
     (try simp only [Exit.then])
     replace hx := hx.pu hp
     replace hrw := hrw.pu hp
     replace hrb := hrb.pu hp
     replace hrs := hrs.pu hp
     replace htab := htab.pu hp
     replace hbel := hbel.trans (Below.mono hp hbel.size)
     clear hp
     go_wp2_with fail
     apply region_pu (Φs := (Is _ :: Is _ :: Is _ :: Is _ :: Is _ :: Is _ :: Is _ :: Is _ :: Is _ :: Is _ :: Is _ :: Is _ :: Is _ :: Is _ :: Is _ :: Is _ :: Is _ :: Is _ :: Is _ :: Is _ :: Is _ :: Is _ :: Is _ :: Is _ :: Is _ :: Is _ :: [])) (hm := by kernel_rfl) (hE := by kernel_rfl) (hD := by kernel_rfl) (hsize := by kernel_rfl)
     case hop =>
      refine ⟨?_, ?_, ?_, ?_, ?_, ?_, ?_, ?_, ?_, ?_, ?_, ?_, ?_, ?_, ?_, ?_, ?_, ?_, ?_, ?_, ?_, ?_, ?_, ?_, ?_, ?_, trivial⟩
      · intro a' w' hs hp he
        have e8 := hs 8 (by kernel_rfl)
        try simp [Is, Region.binds] at he
        exact op_v
      · intro a' w' hs hp he
        try simp [Is, Region.binds] at he
        obtain ⟨c0, c1, c2, c3, c4, c5, c6, c7⟩ := Row.st (hx.pu hp); exact op_val rfl (wanted_none rfl) (by first | (go_simp; done) | (go_simp; rfl)) rfl (Pu.refl _)
      · intro a' w' hs hp he
        have e10 := hs 10 (by kernel_rfl)
        try simp [Is, Region.binds] at he
        exact op_v
      · intro a' w' hs hp he
        try simp [Is, Region.binds] at he
        exact op_callV (turned _ 6 11 25 (by decide) (by decide) (by decide) (by decide) (by decide) (by decide) _) rfl (wanted_none rfl) (by first | (go_simp; done) | (go_simp; rfl)) rfl
      · intro a' w' hs hp he
        try simp [Is, Region.binds] at he
        exact op_v
      · intro a' w' hs hp he
        have e10 := hs 10 (by kernel_rfl)
        try simp [Is, Region.binds] at he
        exact op_v
      · intro a' w' hs hp he
        have e11 := hs 11 (by kernel_rfl)
        try simp [Is, Region.binds] at he
        exact op_v
      · intro a' w' hs hp he
        try simp [Is, Region.binds] at he
        exact op_v
      · intro a' w' hs hp he
        have e10 := hs 10 (by kernel_rfl)
        try simp [Is, Region.binds] at he
        exact op_v
      · intro a' w' hs hp he
        try simp [Is, Region.binds] at he
        exact op_v
      · intro a' w' hs hp he
        have e12 := hs 12 (by kernel_rfl)
        try simp [Is, Region.binds] at he
        exact op_v
      · intro a' w' hs hp he
        try simp [Is, Region.binds] at he
        exact op_v
      · intro a' w' hs hp he
        try simp [Is, Region.binds] at he
        exact op_v
      · intro a' w' hs hp he
        try simp [Is, Region.binds] at he
        exact op_v
      · intro a' w' hs hp he
        have e0 := hs 0 (by kernel_rfl)
        try simp [Is, Region.binds] at he
        exact op_v
      · intro a' w' hs hp he
        have e9 := hs 9 (by kernel_rfl)
        try simp [Is, Region.binds] at he
        exact op_v
      · intro a' w' hs hp he
        try simp [Is, Region.binds] at he
        exact op_v
      · intro a' w' hs hp he
        try simp [Is, Region.binds] at he
        exact op_v
      · intro a' w' hs hp he
        try simp [Is, Region.binds] at he
        exact op_v
      · intro a' w' hs hp he
        try simp [Is, Region.binds] at he
        have c := Row.k (htab.pu hp) n (by omega); rw [← HKN.out] at c; exact op_val rfl (wanted_none rfl) (by first | (go_simp; done) | (go_simp; rfl)) rfl (Pu.refl _)
      · intro a' w' hs hp he
        try simp [Is, Region.binds] at he
        exact op_v
      · intro a' w' hs hp he
        have e9 := hs 9 (by kernel_rfl)
        try simp [Is, Region.binds] at he
        exact op_v
      · intro a' w' hs hp he
        have e7 := hs 7 (by kernel_rfl)
        try simp [Is, Region.binds] at he
        exact op_v
      · intro a' w' hs hp he
        try simp [Is, Region.binds] at he
        have c := Row.word (hrw.pu hp) n (by omega); rw [← HWN.out] at c; exact op_val rfl (wanted_none rfl) (by first | (go_simp; done) | (go_simp; rfl)) rfl (Pu.refl _)
      · intro a' w' hs hp he
        try simp [Is, Region.binds] at he
        exact op_v
      · intro a' w' hs hp he
        try simp [Is, Region.binds] at he
        exact op_v
     case hend =>
      intro a' w' hdef hsz hs hp hall
      obtain ⟨r0, r1, r2, r3, r4, r5, r6, r7, r8, r9, r10, r11, r12, r13, r14, r15, r16, r17, r18, r19, r20, r21, r22, r23, r24, r25, -⟩ := hall
      have hA := agree_done (agree_step (agree_step (agree_step (agree_step (agree_step (agree_step (agree_step (agree_step (agree_step (agree_step (agree_step (agree_step (agree_step (agree_step (agree_step (agree_step (agree_step (agree_step (agree_step (agree_step (agree_step (agree_step (agree_step (agree_step (agree_step (agree_step (agree_init [31, 32, 33, 34, 35, 36, 37, 38, 39, 40, 41, 42, 43, 44, 45, 46, 47, 48, 49, 50, 51, 52, 53, 54, 55, 13] hsz hs (by kernel_rfl)) r0) r1) r2) r3) r4) r5) r6) r7) r8) r9) r10) r11) r12) r13) r14) r15) r16) r17) r18) r19) r20) r21) r22) r23) r24) r25)
      have ha := act_of hA hdef
      rw [ha]
      clear ha hA hs hsz hdef r0 r1 r2 r3 r4 r5 r6 r7 r8 r9 r10 r11 r12 r13 r14 r15 r16 r17 r18 r19 r20 r21 r22 r23 r24 r25 
      (try simp only [List.setIfInBounds_toArray])
      (try dsimp only [List.set_cons_zero, List.set_cons_succ])
      (try simp only [Exit.then])
      replace hx := hx.pu hp
      replace hrw := hrw.pu hp
      replace hrb := hrb.pu hp
      replace hrs := hrs.pu hp
      replace htab := htab.pu hp
      replace hbel := hbel.trans (Below.mono hp hbel.size)
      clear hp
      go_wp2_with fail
      apply region_pu (Φs := (Is _ :: Is _ :: Is _ :: Is _ :: Is _ :: Is _ :: Is _ :: Is _ :: Is _ :: [])) (hm := by kernel_rfl) (hE := by kernel_rfl) (hD := by kernel_rfl) (hsize := by kernel_rfl)
      case hop =>
       refine ⟨?_, ?_, ?_, ?_, ?_, ?_, ?_, ?_, ?_, trivial⟩
       · intro a' w' hs hp he
         have e8 := hs 8 (by kernel_rfl)
         try simp [Is, Region.binds] at he
         exact op_v
       · intro a' w' hs hp he
         try simp [Is, Region.binds] at he
         obtain ⟨c0, c1, c2, c3, c4, c5, c6, c7⟩ := Row.st (hx.pu hp); exact op_val rfl (wanted_none rfl) (by first | (go_simp; done) | (go_simp; rfl)) rfl (Pu.refl _)
       · intro a' w' hs hp he
         have e8 := hs 8 (by kernel_rfl)
         try simp [Is, Region.binds] at he
         exact op_v
       · intro a' w' hs hp he
         try simp [Is, Region.binds] at he
         obtain ⟨c0, c1, c2, c3, c4, c5, c6, c7⟩ := Row.st (hx.pu hp); exact op_val rfl (wanted_none rfl) (by first | (go_simp; done) | (go_simp; rfl)) rfl (Pu.refl _)
       · intro a' w' hs hp he
         have e8 := hs 8 (by kernel_rfl)
         try simp [Is, Region.binds] at he
         exact op_v
       · intro a' w' hs hp he
         try simp [Is, Region.binds] at he
         obtain ⟨c0, c1, c2, c3, c4, c5, c6, c7⟩ := Row.st (hx.pu hp); exact op_val rfl (wanted_none rfl) (by first | (go_simp; done) | (go_simp; rfl)) rfl (Pu.refl _)
       · intro a' w' hs hp he
         try simp [Is, Region.binds] at he
         exact op_v
       · intro a' w' hs hp he
         try simp [Is, Region.binds] at he
         exact op_v
       · intro a' w' hs hp he
         try simp [Is, Region.binds] at he
         exact op_v
      case hend =>
       intro a' w' hdef hsz hs hp hall
       obtain ⟨r0, r1, r2, r3, r4, r5, r6, r7, r8, -⟩ := hall
       have hA := agree_done (agree_step (agree_step (agree_step (agree_step (agree_step (agree_step (agree_step (agree_step (agree_step (agree_init [56, 57, 58, 59, 60, 61, 14, 15, 16] hsz hs (by kernel_rfl)) r0) r1) r2) r3) r4) r5) r6) r7) r8)
       have ha := act_of hA hdef
       rw [ha]
       clear ha hA hs hsz hdef r0 r1 r2 r3 r4 r5 r6 r7 r8 
       (try simp only [List.setIfInBounds_toArray])
       (try dsimp only [List.set_cons_zero, List.set_cons_succ])
       (try simp only [Exit.then])
       replace hx := hx.pu hp
       replace hrw := hrw.pu hp
       replace hrb := hrb.pu hp
       replace hrs := hrs.pu hp
       replace htab := htab.pu hp
       replace hbel := hbel.trans (Below.mono hp hbel.size)
       clear hp
       obtain ⟨c0, c1, c2, c3, c4, c5, c6, c7⟩ := Row.st hx
       go_wp2_with (first
        | (go_at_call 195; refine (turned _ 2 13 22 (by decide) (by decide) (by decide) (by decide) (by decide) (by decide) _).mono ?_; rintro e w4 ⟨rfl, rfl⟩)
        | (refine wpList_built rfl 232 _ rfl (vs (Esc.step x kn wn).l) (by kernel_rfl) ?_; generalize hst : (vs (Esc.step x kn wn).l) = st; have HSTE := Lib.hid hst; clear hst)
        | (refine wpList_store_part rfl 232 (.tmp 8) (.tmp 89) rfl (w1.heap.size+1) 0 st (by rfl) (by rfl) hx (by rw [← HSTE.out]; exact hi8) (by rw [← HSTE.out]; exact Nat.le_refl 8) (by rw [← HSTE.out]; rfl) ?_; intro w5 hx5 hch5))
       rw [splice_all (by rw [← HSTE.out]; rfl), ← HSTE.out, ← HST.out] at hx5
       replace hrw := hch5.row hrw (by omega)
       replace hrb := hch5.row hrb (by omega)
       replace hrs := hch5.row hrs (by omega)
       replace htab := hch5.row htab (by omega)
       replace hbel := hch5.below hbel (by omega)
       go_roundw
       case rel => exact ⟨n + 1, by omega, by go_num, htab, hrs, hrb, hrw, hx5, hbel⟩
       case measure => simp [intOf]; omega
  · obtain rfl : n = 64 := by omega
    obtain ⟨x, hxe⟩ : ∃ x, x = rounds sc s 64 := ⟨_, rfl⟩
    rw [← hxe] at hx
    have hfin : res = x.add s := by rw [HRES.out, hxe, HSC.out]; rfl
    have HFIN := Lib.hid hfin
    rw [HSL.out] at hrs
    have ht0 := HTAB.out.lt
    clear hxe hfin
    go_wp2_with fail
    go_loopw [91] (fun i wq => ∃ m : Nat, m ≤ 8 ∧ i = .int .i64 m ∧ Row wq w.heap.size 232 (vs s.l) ∧ Row wq (w.heap.size+1) 232 (List.replicate 8 (.int .u32 0)) ∧ Row wq (w1.heap.size+1) 232 (vs (addTo x.l s.l m)) ∧ Below w.heap.size w wq) (fun i _ => 8 - (intOf i).toNat)
    case atStart => exact ⟨0, by omega, rfl, hrs, hrb, hx, hbel⟩
    case round =>
     clear hrs hrb hx hbel htab hrw
     obtain ⟨m, hm, rfl, hrs, hrb, hx, hbel⟩ := hrel
     by_cases hlm : m < 8
     · obtain ⟨xm, hxm⟩ : ∃ v, v = x.l.getD m 0 := ⟨_, rfl⟩
       obtain ⟨sm, hsm⟩ : ∃ v, v = s.l.getD m 0 := ⟨_, rfl⟩
       have hset := addTo_set x.l s.l m hlm
       rw [← hxm, ← hsm] at hset
       have HX := Lib.hid hxm
       have HS' := Lib.hid hsm
       have HSET := Lib.hid hset
       have h0m : (0 : Int) ≤ m := by omega
       have h8m : (m : Int) < 8 := by omega
       clear hxm hsm hset
       go_wp2_with fail
       apply region_last (n := 8) (hn := by kernel_rfl) (hlast := rfl) (hU := by kernel_rfl) (Φs := (Is _ :: Is _ :: Is _ :: Is _ :: Is _ :: Is _ :: Is _ :: Is _ :: [])) (hm := by kernel_rfl) (hE := by kernel_rfl) (hD := by kernel_rfl) (hsize := by kernel_rfl)
       case hop =>
        refine ⟨?_, ?_, ?_, ?_, ?_, ?_, ?_, ?_, trivial⟩
        · intro a' w' hs hp he
          have e18 := hs 18 (by kernel_rfl)
          try simp [Is, Region.binds] at he
          exact op_v
        · intro a' w' hs hp he
          have e8 := hs 8 (by kernel_rfl)
          try simp [Is, Region.binds] at he
          exact op_v
        · intro a' w' hs hp he
          try simp [Is, Region.binds] at he
          have c := Row.word (hx.pu hp) m (by rw [addTo_length]; omega); rw [addTo_get _ _ _ hlm, ← HX.out] at c; exact op_val rfl (wanted_none rfl) (by first | (go_simp; done) | (go_simp; rfl)) rfl (Pu.refl _)
        · intro a' w' hs hp he
          have e18 := hs 18 (by kernel_rfl)
          try simp [Is, Region.binds] at he
          exact op_v
        · intro a' w' hs hp he
          have e4 := hs 4 (by kernel_rfl)
          try simp [Is, Region.binds] at he
          exact op_v
        · intro a' w' hs hp he
          try simp [Is, Region.binds] at he
          have c := Row.word (hrs.pu hp) m (by show m < 8; omega); rw [← HS'.out] at c; exact op_val rfl (wanted_none rfl) (by first | (go_simp; done) | (go_simp; rfl)) rfl (Pu.refl _)
        · intro a' w' hs hp he
          try simp [Is, Region.binds] at he
          exact op_v
        · intro a' w' hs hp he
          have e8 := hs 8 (by kernel_rfl)
          try simp [Is, Region.binds] at he
          exact op_v
       case hend =>
        intro a' w' hdef hsz hs hp hall
        obtain ⟨r0, r1, r2, r3, r4, r5, r6, r7, -⟩ := hall
        have hA := agree_done (agree_step (agree_step (agree_step (agree_step (agree_step (agree_step (agree_step (agree_step (agree_init [94, 95, 96, 97, 98, 99, 100, 101] hsz hs (by kernel_rfl)) r0) r1) r2) r3) r4) r5) r6) r7)
        have ha := act_of hA hdef
        rw [ha]
        clear ha hA hs hsz hdef r0 r1 r2 r3 r4 r5 r6 r7 
        (try simp only [List.setIfInBounds_toArray])
        (try dsimp only [List.set_cons_zero, List.set_cons_succ])
        (try simp only [Exit.then])
        have c := Row.word (hx.pu hp) m (by rw [addTo_length]; omega); rw [addTo_get _ _ _ hlm, ← HX.out] at c; have hf := (hx.pu hp).frozen m (by rw [vs_length, addTo_length]; omega)
        refine op_done rfl (wanted_none rfl) (by first | (go_simp; done) | (go_simp; rfl)) ?_
        (try simp only [Exit.inBlock, Exit.then])
        go_wp2_with fail
        go_roundw
        case rel =>
         replace hx := hx.pu hp
         replace hrs := hrs.pu hp
         replace hrb := hrb.pu hp
         replace hbel := hbel.trans (Below.mono hp hbel.size)
         refine ⟨_, _, _, _, _, _, _, _, _, _, _, _, _, ⟨m + 1, by omega, ?_, hrs.setOther _ _ (by simp; omega), hrb.setOther _ _ (by simp; omega), ?_, hbel.setCell (by simp; omega) _⟩, rfl⟩
         · go_num
         have := hx.set m (V (xm + sm))
         rw [vs_set, HSET.out] at this
         exact this
        case measure => simp [intOf]; omega
     · obtain rfl : m = 8 := by omega
       rw [addTo_all, ← HFIN.out] at hx
       obtain ⟨l2, hl2⟩ : ∃ l, l = vs res.l := ⟨_, rfl⟩
       rw [← hl2] at hx
       have hl28 : l2.length = 8 := by rw [hl2]; rfl
       have hone2 : l2.all (·.oneCell') = true := by rw [hl2]; rfl
       have htk2 : ((l2.drop 0).take 8) = l2 := by rw [List.drop_zero, List.take_of_length_le (by omega)]
       have HL2 := Lib.hid hl2
       clear hl2
       go_wp2_with (first
        | (refine wpList_load_part rfl 232 (.tmp 8) rfl (w1.heap.size+1) 0 8 (by rfl) hx Tryz.underlying232 rfl hi8 (by omega) ?_; rw [htk2])
        | (refine wpList_store_part rfl 232 (.tmp 6) (.tmp 103) rfl (w.heap.size+1) 0 l2 (by rfl) (by rfl) hrb (by rw [hl28]; exact hi8) (by rw [hl28]; decide) hone2 ?_; intro w6 hr6 hch6))
       rw [splice_all (by rw [hl28]; rfl)] at hr6
       have hrl := hr6.load (P := Tryz.prog) 232 0 8 Tryz.underlying232 rfl hi8 (by omega)
       rw [htk2] at hrl
       (try simp only [Exit.inBlock, Exit.then])
       refine bodyPost_ret (results_cell_eq rfl _ _ rfl hrl) rfl ?_
       exact ⟨l2, HL2.out, rfl, hch6.below hbel (by omega)⟩
end Go.Proofs.YtoakccknimoogaaGreat
namespace Go.Proofs.YtoakccknimoogaaGreat
open Go.RowKit
theorem disable (w : World) : (callFunc 171 #[]).run Tryz.prog w = .ok (.value (.tuple #[])) w := run_call_mark0 Tryz.func171 (by kernel_rfl) (by kernel_rfl) (by kernel_rfl) .disable (by kernel_rfl) w
theorem enable (w : World) : (callFunc 173 #[]).run Tryz.prog w = .ok (.value (.tuple #[])) w := run_call_mark0 Tryz.func173 (by kernel_rfl) (by kernel_rfl) (by kernel_rfl) .enable (by kernel_rfl) w
theorem acquire (a : Addr) (w : World) : (callFunc 174 #[.pointer (some a)]).run Tryz.prog w = .ok (.value (.tuple #[])) w := run_call_marked Tryz.func174 (by kernel_rfl) (by kernel_rfl) (by kernel_rfl) .acquire (by kernel_rfl) a w
theorem releaseMerge (a : Addr) (w : World) : (callFunc 176 #[.pointer (some a)]).run Tryz.prog w = .ok (.value (.tuple #[])) w := run_call_marked Tryz.func176 (by kernel_rfl) (by kernel_rfl) (by kernel_rfl) .releaseMerge (by kernel_rfl) a w
set_option maxRecDepth 100000 in
theorem store_deferred (a : Addr) (x : Value) (u : FrameMode) (w : World) (hc : w.cell? a = some x) (hz : w.frozen? a = false) :
 CallsD Tryz.prog 155 #[.pointer (some a), .bool true] u w fun e u' w' => u' = u ∧ (e = .returned (.tuple #[]) ∧ w' = w.drew.setCell a (.int .u32 1)) := by
 have hc' : w.drew.cell? a = some x := by go_simp
 have hz' : w.drew.frozen? a = false := by go_simp
 have hst := run_call_store (P := Tryz.prog) Tryz.func141 (by kernel_rfl) (by kernel_rfl) (by kernel_rfl) (by kernel_rfl) (k := .u32) (y := 1) hc' hz'
 go_enter_d Tryz.func155, Tryz.ntmps155
 go_wp2
 go_region_calls
 all_goals (go_end0; exact ⟨rfl, rfl⟩)
set_option maxRecDepth 100000 in
theorem unlock_deferred (a : Addr) (u : FrameMode) (w : World) (hc : w.cell? a = some (.int .i32 1)) (hz : w.frozen? a = false) :
 CallsD Tryz.prog 154 #[.pointer (some a)] u w fun e u' w' => u' = u ∧ (e = .returned (.tuple #[]) ∧ w' = w.setCell a (.int .i32 0)) := by
 have hd := disable
 have he := enable
 have hr := releaseMerge
 have hadd := run_call_add (P := Tryz.prog) Tryz.func159 (by kernel_rfl) (by kernel_rfl) (by kernel_rfl) .i32 (by kernel_rfl) (y := -1) (s := 0) hc hz (by simp [go_sem]; rfl)
 have hcv := run_convert_to_unsafe (P := Tryz.prog) (src := 226) (dst := 220) Tryz.underlying226 Tryz.underlying220 (by kernel_rfl) hc
 go_enter_d Tryz.func154, Tryz.ntmps154
 go_wp2
 go_end0
 go_wp2
 go_end0
 exact ⟨rfl, rfl⟩
set_option maxRecDepth 100000 in
theorem lock_free (a : Addr) (w : World) (hc : w.cell? a = some (.int .i32 0)) (hz : w.frozen? a = false) :
 Calls Tryz.prog 153 #[.pointer (some a)] w fun e w' => e = .returned (.tuple #[]) ∧ w' = w.setCell a (.int .i32 1) := by
 have hd := disable
 have he := enable
 have ha := acquire
 have hcas := run_call_cas_hit (P := Tryz.prog) Tryz.func172 (by kernel_rfl) (by kernel_rfl) (by kernel_rfl) .i32 (by kernel_rfl) (y := 1) hc hz
 have hc' : (w.setCell a (.int .i32 1)).cell? a = some (.int .i32 1) := World.cell?_setCell_same w a _ hc
 have hcv := run_convert_to_unsafe (P := Tryz.prog) (src := 226) (dst := 220) Tryz.underlying226 Tryz.underlying220 (by kernel_rfl) hc'
 go_enter Tryz.func153, Tryz.ntmps153
 go_wp2
 first | go_end0 | (simp only [Exit.inBlock, Exit.then]; refine bodyPost_ret (results_none rfl _ _ _) rfl ?_) | refine bodyPost_ret (results_none rfl _ _ _) rfl ?_
 go_wp2
 go_end0
 exact ⟨rfl, rfl⟩
end Go.Proofs.YtoakccknimoogaaGreat
set_option linter.unusedSimpArgs false
set_option linter.unusedVariables false
namespace Go.Proofs.YtoakccknimoogaaGreat
open Go.RowKit
set_option maxRecDepth 100000 in
set_option maxHeartbeats 1600000 in
theorem once_slow (b off k : Nat) (caps : Array Value) (w : World) (R : World → Prop)
 (hrun : ∀ (w : World), (callFunc k caps).run Tryz.prog w = .ok (.enter k caps) w)
 (h0 : w.cell? ⟨b, off, none⟩ = some (.int .u32 0)) (h1 : w.cell? ⟨b, off + 1, none⟩ = some (.int .i32 0))
 (f1 : w.frozen? ⟨b, off + 1, none⟩ = false)
 (H : Calls Tryz.prog k caps (w.setCell ⟨b, off + 1, none⟩ (.int .i32 1)) fun e w2 => e = .returned (.tuple #[]) ∧ R w2 ∧
   w2.cell? ⟨b, off, none⟩ = some (.int .u32 0) ∧ w2.frozen? ⟨b, off, none⟩ = false ∧ w2.cell? ⟨b, off + 1, none⟩ = some (.int .i32 1) ∧ w2.frozen? ⟨b, off + 1, none⟩ = false) :
 Calls Tryz.prog 121 #[.pointer (some ⟨b, off, none⟩), .func (.func k) #[] caps] w fun e w' => e = .returned (.tuple #[]) ∧
  ∃ w2, R w2 ∧ w' = (w2.drew.setCell ⟨b, off, none⟩ (.int .u32 1)).setCell ⟨b, off + 1, none⟩ (.int .i32 0) := by
 have hl := run_call_load (P := Tryz.prog) Tryz.func152 (by kernel_rfl) (by kernel_rfl) (by kernel_rfl) .u32 (by kernel_rfl) (w := w.setCell ⟨b, off + 1, none⟩ (.int .i32 1)) (a := ⟨b, off, none⟩) (x := 0) ((World.cell?_setCell_other _ ⟨b, off + 1, none⟩ ⟨b, off, none⟩ _ (by simp)).trans h0)
 have hnot : ∀ (x : Bool) (w : World), (Op.unary .not (.bool x)).run Tryz.prog w = .ok (.bool (!x)) w := fun _ _ => rfl
 go_enter_defers Tryz.func121, Tryz.ntmps121
 go_wp2_with (first | (go_at_call 153; refine (lock_free ⟨b, off + 1, none⟩ _ (by go_simp) (by go_simp)).mono ?_; rintro e w' ⟨rfl, rfl⟩) | (go_at_call 120; go_in))
 refine H.mono ?_
 rintro e w2 ⟨rfl, hR, c0, g0, c1, g1⟩
 go_wp2_with fail
 refine leaves_cons (f := 155) (args := #[.pointer (some ⟨b, off, none⟩), .bool true]) (by simp) (by simp [go_sem]) ?_
 refine (store_deferred ⟨b, off, none⟩ (.int .u32 0) .returning _ c0 g0).mono ?_
 rintro e u' w'' ⟨rfl, rfl, rfl⟩
 refine leaves_cons (f := 154) (args := #[.pointer (some ⟨b, off + 1, none⟩)]) (by simp [settle]) (by simp [go_sem]) ?_
 refine (unlock_deferred ⟨b, off + 1, none⟩ _ _ ?_ (by simp [g1])).mono ?_
 · refine (World.cell?_setCell_other _ ⟨b, off, none⟩ ⟨b, off + 1, none⟩ _ (by simp)).trans ?_
   rw [World.cell?_drew]; exact c1
 rintro e u' w'' ⟨rfl, rfl, rfl⟩
 simp [Leaves, settle, results, Tryz.results121]
 exact ⟨w2, hR, rfl⟩
set_option maxRecDepth 100000 in
set_option maxHeartbeats 1600000 in
theorem once_first (b off k : Nat) (caps : Array Value) (w : World) (R : World → Prop)
 (hrun : ∀ (w : World), (callFunc k caps).run Tryz.prog w = .ok (.enter k caps) w)
 (h0 : w.cell? ⟨b, off, none⟩ = some (.int .u32 0)) (h1 : w.cell? ⟨b, off + 1, none⟩ = some (.int .i32 0))
 (f1 : w.frozen? ⟨b, off + 1, none⟩ = false)
 (H : Calls Tryz.prog k caps (w.setCell ⟨b, off + 1, none⟩ (.int .i32 1)) fun e w2 => e = .returned (.tuple #[]) ∧ R w2 ∧
   w2.cell? ⟨b, off, none⟩ = some (.int .u32 0) ∧ w2.frozen? ⟨b, off, none⟩ = false ∧ w2.cell? ⟨b, off + 1, none⟩ = some (.int .i32 1) ∧ w2.frozen? ⟨b, off + 1, none⟩ = false) :
 Calls Tryz.prog 72 #[.pointer (some ⟨b, off, none⟩), .func (.func k) #[] caps] w fun e w' => e = .returned (.tuple #[]) ∧
  ∃ w2, R w2 ∧ w' = (w2.drew.setCell ⟨b, off, none⟩ (.int .u32 1)).setCell ⟨b, off + 1, none⟩ (.int .i32 0) := by
 have hl := run_call_load (P := Tryz.prog) Tryz.func152 (by kernel_rfl) (by kernel_rfl) (by kernel_rfl) .u32 (by kernel_rfl) h0
 have hnot : ∀ (x : Bool) (w : World), (Op.unary .not (.bool x)).run Tryz.prog w = .ok (.bool (!x)) w := fun _ _ => rfl
 have HS := once_slow b off k caps w R hrun h0 h1 f1 H
 clear H hrun
 go_enter Tryz.func72, Tryz.ntmps72
 go_wp2_with (first | (go_at_call 121; refine HS.mono ?_; rintro e w' ⟨rfl, w2, hR, rfl⟩) | (go_at_call 120; go_in))
 go_end0
 exact ⟨rfl, w2, hR, rfl⟩
/-- Do, done already. -/
theorem once_again (b off : Nat) (fv : Value) (w : World) (h0 : w.cell? ⟨b, off, none⟩ = some (.int .u32 1)) :
 Calls Tryz.prog 72 #[.pointer (some ⟨b, off, none⟩), fv] w fun e w' => e = .returned (.tuple #[]) ∧ w' = w := by
 have hl := run_call_load (P := Tryz.prog) Tryz.func152 (by kernel_rfl) (by kernel_rfl) (by kernel_rfl) .u32 (by kernel_rfl) h0
 have hnot : ∀ (x : Bool) (w : World), (Op.unary .not (.bool x)).run Tryz.prog w = .ok (.bool (!x)) w := fun _ _ => rfl
 go_enter Tryz.func72, Tryz.ntmps72
 go_wp2_with (go_at_call 120; go_in)
 go_end0
 exact ⟨rfl, rfl⟩
end Go.Proofs.YtoakccknimoogaaGreat
namespace Go.Esc
open Go Go.RowKit
/-- w' has new blocks, and block g may be changed. -/
structure But (g : Nat) (w w' : World) : Prop where
 os : w'.os = w.os
 tape : w'.tape = w.tape
 output : w'.output = w.output
 size : w.heap.size ≤ w'.heap.size
 block : ∀ k, k < w.heap.size → k ≠ g → w'.heap[k]? = w.heap[k]?
theorem But.refl (g : Nat) (w : World) : But g w w := ⟨rfl, rfl, rfl, Nat.le_refl _, fun _ _ _ => rfl⟩
theorem But.trans {g : Nat} {a b c : World} (h : But g a b) (k : But g b c) : But g a c :=
 ⟨k.os.trans h.os, k.tape.trans h.tape, k.output.trans h.output, Nat.le_trans h.size k.size, fun i hi hg => (k.block i (Nat.lt_of_lt_of_le hi h.size) hg).trans (h.block i hi hg)⟩
theorem But.pu {g : Nat} {a b : World} (h : Pu a b) : But g a b := ⟨h.os, h.tape, h.output, h.size, fun i hi _ => h.block i hi⟩
theorem But.set {g : Nat} (a : World) (o : Nat) (v : Value) : But g a (a.setCell ⟨g, o, none⟩ v) := ⟨rfl, rfl, rfl, by simp, fun _ _ hg => Below.heap_setCell _ _ _ _ hg⟩
theorem But.row {g k : Nat} {w w' : World} (h : But g w w') {e : TypeId} {xs : List Value} (hr : Row w k e xs) (hk : k ≠ g) : Row w' k e xs := hr.other (h.block k hr.lt hk)
theorem But.below {B g : Nat} {a w w' : World} (h : Below B a w) (k : But g w w') (hg : B ≤ g) (hB : B ≤ w.heap.size) : Below B a w' :=
 h.trans ⟨k.os, k.tape, k.output, k.size, fun i hi => k.block i (by omega) (by omega)⟩
end Go.Esc
set_option linter.unusedSimpArgs false
set_option linter.unusedVariables false
namespace Go.Esc
open Go Go.RowKit
theorem splice_snoc (ys : List Value) : ∀ (xs : List Value) (o : Nat) (v : Value), splice xs o (ys ++ [v]) = (splice xs o ys).set (o + ys.length) v := by
 induction ys with
 | nil => intro xs o v; rfl
 | cons y r ih => intro xs o v; rw [List.cons_append, splice, splice, ih, List.length_cons]; congr 1; omega
theorem flat_word (l : List Wd) (i : Nat) (h : i < l.length) : ((l.flatMap fun x => putB x.toNat 4).drop (4 * i)).take 4 = putB (l[i]).toNat 4 := by
 induction l generalizing i with
 | nil => simp at h
 | cons a l ih =>
   rw [List.flatMap_cons]
   have hl : (putB a.toNat 4).length = 4 := rfl
   cases i with
   | zero => simp [List.take_append_of_le_length, hl]
   | succ i =>
     rw [show 4 * (i + 1) = (putB a.toNat 4).length + 4 * i by rw [hl]; omega, List.drop_append, List.drop_eq_nil_of_le (by omega), List.nil_append, Nat.add_sub_cancel_left]
     simpa using ih i (by simpa using h)
theorem flat_length (l : List Wd) : (l.flatMap fun x => putB x.toNat 4).length = 4 * l.length := by
 induction l with
 | nil => rfl
 | cons a l ih => rw [List.flatMap_cons, List.length_append, ih, List.length_cons]; show 4 + _ = _; omega
theorem beN_putB4 (x : Wd) : BitVec.ofNat 32 (beN (putB x.toNat 4)) = x := by
 have hx := x.isLt
 apply BitVec.eq_of_toNat_eq
 rw [BitVec.toNat_ofNat]
 simp only [putB, beN, List.foldl_cons, List.foldl_nil, UInt8.toNat_ofNat']
 omega
end Go.Esc
namespace Go.Proofs.YtoakccknimoogaaGreat
open Go.RowKit Go.Esc
set_option maxRecDepth 100000 in
set_option maxHeartbeats 1600000 in
theorem words (l : List Wd) (h0 : 0 < l.length) (hm : l.length ≤ 100) (g off : Nat) (te : TypeId) (xs : List Value) (hx : off + l.length ≤ xs.length) (h : Bs) (hh : h = hex (l.flatMap fun x => putB x.toNat 4)) (w : World) (hrow : Row w g te xs) :
 Calls Tryz.prog 193 #[.slice (some ⟨g, off, none⟩) l.length l.length, S h] w fun e w' => e = .returned (.tuple #[]) ∧ Row w' g te (splice xs off (vs l)) ∧ But g w w' := by
 obtain ⟨b, hb⟩ : ∃ b, b = (l.flatMap fun x => putB x.toNat 4) := ⟨_, rfl⟩
 have hbl : b.length = 4 * l.length := by rw [hb, flat_length]
 rw [← hb] at hh
 have hu := fun w => unhex b (by omega) (by omega) w
 rw [← hh] at hu
 have HU := Lib.hid hu
 have HB := Lib.hid hb
 have HBL := Lib.hid hbl
 clear hu hh hb hbl
 go_enter Tryz.func193, Tryz.ntmps193
 go_wp2_with (go_at_call 197; refine (HU.out _).mono ?_; rintro e w1 ⟨rfl, hp1⟩)
 have hrow1 := hrow.pu hp1
 have hbut1 : But g w w1 := But.pu hp1
 go_loopw [14] (fun i wr => ∃ j : Nat, j ≤ l.length ∧ i = .int .i64 j ∧ Row wr g te (splice xs off (vs (l.take j))) ∧ But g w wr) (fun i _ => l.length - (intOf i).toNat)
 case atStart => exact ⟨0, by omega, rfl, hrow1, hbut1⟩
 case round =>
  clear hrow1 hbut1 hp1
  obtain ⟨j, hj, rfl, hr, hbut⟩ := hrel
  by_cases hlt : j < l.length
  · have hbig := fun w => big ((b.take (4 * j + 4)).drop (4 * j)) w (by simp; omega)
    have HBG := Lib.hid hbig
    have hbl := HBL.out
    have hs0 : (0 : Int) ≤ 4 * j := by omega
    have hs5 : (0 : Int) ≤ 4 * j + 4 := by omega
    have hs1 : (4 : Int) * j ≤ 4 * j + 4 := by omega
    have hs2 : (4 : Int) * j + 4 ≤ b.length := by omega
    have hs3 : ((4 : Int) * j).toNat = 4 * j := by omega
    have hs4 : ((4 : Int) * j + 4).toNat = 4 * j + 4 := by omega
    have hs6 : (j : Int) < l.length := by omega
    have hs7 : IntKind.i64.wrap ((4 : Int) * j) = 4 * j := by rw [IntKind.wrap_i64]; omega
    have hs8 : IntKind.i64.wrap ((4 : Int) * j + 4) = 4 * j + 4 := by rw [IntKind.wrap_i64]; omega
    clear hbl hbig
    go_wp2_with (go_at_call 31; refine (HBG.out _).mono ?_; rintro e w2 ⟨rfl, hp2⟩; replace hr := hr.pu hp2; replace hbut := hbut.trans (But.pu hp2); have hc := hr.cell (off + j) (by rw [splice_length]; omega); have hf := hr.frozen (off + j) (by rw [splice_length]; omega))
    go_roundw
    case rel =>
     refine ⟨j + 1, by omega, by go_num, ?_, hbut.trans (But.set _ _ _)⟩
     have := hr.set (off + j) (V l[j])
     have e : (vs (l.take j)).length = j := by rw [vs_length, List.length_take]; omega
     rw [show off + j = off + (vs (l.take j)).length by rw [e], ← splice_snoc] at this
     rw [List.take_succ_eq_append_getElem hlt]
     have e2 : BitVec.ofNat 32 (beN ((b.take (4 * j + 4)).drop (4 * j))) = l[j] := by rw [word_of, HB.out, flat_word l j hlt, beN_putB4]
     rw [e2]
     rw [e] at this
     rw [show vs (l.take j ++ [l[j]]) = vs (l.take j) ++ [V l[j]] by rw [vs, vs, List.map_append]; rfl]
     exact this
    case measure => simp [intOf]; omega
  · obtain rfl : j = l.length := by omega
    rw [List.take_length] at hr
    go_wp2_with fail
    go_end0
    exact ⟨rfl, hr, hbut⟩
end Go.Proofs.YtoakccknimoogaaGreat
set_option linter.unusedSimpArgs false
set_option linter.unusedVariables false
namespace Go.Proofs.YtoakccknimoogaaGreat
open Go.RowKit Go.Esc
theorem words' (l : List Wd) (h0 : 0 < l.length) (hm : l.length ≤ 100) (n : Nat) (hn : n = l.length) (g off : Nat) (te : TypeId) (xs : List Value) (hx : off + l.length ≤ xs.length) (s : ByteArray) (hh : s = bs (hex (l.flatMap fun x => putB x.toNat 4))) (w : World) (hrow : Row w g te xs) :
 Calls Tryz.prog 193 #[.slice (some ⟨g, off, none⟩) n n, .string s] w fun e w' => e = .returned (.tuple #[]) ∧ Row w' g te (splice xs off (vs l)) ∧ But g w w' := by
 subst hn; subst hh
 exact words l h0 hm g off te xs hx _ rfl w hrow
def once0 (k : Int) : List Value := [.int .u32 0, .int .i32 k, .int .u32 0]
def zeros72 : List Value := List.replicate 72 (.int .u32 0)
theorem fill_k (k : Int) : splice (once0 k ++ zeros72) 3 (vs kTab) = once0 k ++ (vs kTab ++ List.replicate 8 (.int .u32 0)) := by kernel_rfl
theorem fill_h (k : Int) : splice (once0 k ++ (vs kTab ++ List.replicate 8 (.int .u32 0))) 67 (vs hTab) = once0 k ++ (vs kTab ++ vs hTab) := by kernel_rfl
set_option maxRecDepth 100000 in
set_option maxHeartbeats 1600000 in
theorem table_fill (tb pv : Nat) (hne : tb ≠ pv) (te : TypeId) (w : World) (h : Row w tb te (once0 1 ++ zeros72)) (hp : Row w pv 239 [.pointer (some ⟨tb, 0, none⟩)]) :
 Calls Tryz.prog 192 #[.pointer (some ⟨pv, 0, none⟩)] w fun e w' => e = .returned (.tuple #[]) ∧ But tb w w' ∧ Row w' pv 239 [.pointer (some ⟨tb, 0, none⟩)] ∧ Row w' tb te (once0 1 ++ (vs kTab ++ vs hTab)) := by
 have c0 := hp.cell 0 (by simp)
 simp at c0
 have HW1 : ∀ (s : ByteArray) (_ : s = bs (hex (kTab.flatMap fun x => putB x.toNat 4))) (w : World) (_ : Row w tb te (once0 1 ++ zeros72)), Calls Tryz.prog 193 #[.slice (some ⟨tb, 3, none⟩) 64 64, .string s] w fun e w' => e = .returned (.tuple #[]) ∧ Row w' tb te (once0 1 ++ (vs kTab ++ List.replicate 8 (.int .u32 0))) ∧ But tb w w' := fun s hs w hr => by
  have := words' kTab (by decide) (by decide) 64 rfl tb 3 te _ (by simp [once0, zeros72, kTab_length]) s hs w hr
  rwa [fill_k] at this
 have HW2 : ∀ (s : ByteArray) (_ : s = bs (hex (hTab.flatMap fun x => putB x.toNat 4))) (w : World) (_ : Row w tb te (once0 1 ++ (vs kTab ++ List.replicate 8 (.int .u32 0)))), Calls Tryz.prog 193 #[.slice (some ⟨tb, 67, none⟩) 8 8, .string s] w fun e w' => e = .returned (.tuple #[]) ∧ Row w' tb te (once0 1 ++ (vs kTab ++ vs hTab)) ∧ But tb w w' := fun s hs w hr => by
  have := words' hTab (by decide) (by decide) 8 rfl tb 67 te _ (by simp [once0, vs_length, kTab_length, hTab_length]) s hs w hr
  rwa [fill_h] at this
 have H1 := Lib.hid HW1
 have H2 := Lib.hid HW2
 clear HW1 HW2
 go_enter Tryz.func192, Tryz.ntmps192
 go_wp2_with (go_at_call 193; first
  | (refine (H1.out _ (by kernel_rfl) _ h).mono ?_; rintro e w1 ⟨rfl, hr1, hb1⟩; have hp1 := hb1.row hp (Ne.symm hne); have c1 := hp1.cell 0 (by simp); simp at c1; clear c0 h)
  | (refine (H2.out _ (by kernel_rfl) _ hr1).mono ?_; rintro e w2 ⟨rfl, hr2, hb2⟩))
 go_end0
 exact ⟨rfl, hb1.trans hb2, hb2.row hp1 (Ne.symm hne), hr2⟩
theorem mkf' (fn : Fn) (first cap : Array Value) (w : World) : (Instr.makeFunc fn first cap).run Tryz.prog w = .ok (.func fn first cap) w := rfl
set_option maxRecDepth 100000 in
set_option maxHeartbeats 1600000 in
theorem table_made (b : Nat) (te : TypeId) (w : World) (h : Row w b te (once0 0 ++ zeros72)) :
 Calls Tryz.prog 189 #[.pointer (some ⟨b, 0, none⟩)] w fun e w' => e = .returned (.pointer (some ⟨b, 0, none⟩)) ∧ But b w w' ∧ Row w' b te tableCells := by
 have hb := h.lt
 have hmf := mkf'
 have l75 : (once0 0 ++ zeros72).length = 75 := rfl
 have l75' : (once0 1 ++ (vs kTab ++ vs hTab)).length = 75 := rfl
 have hrun : ∀ (w1 : World), (callFunc 192 #[.pointer (some ⟨w.heap.size, 0, none⟩)]).run Tryz.prog w1 = .ok (.enter 192 #[.pointer (some ⟨w.heap.size, 0, none⟩)]) w1 := fun w1 => run_callFunc_body Tryz.func192 (by kernel_rfl) (by kernel_rfl) _ w1
 have ra : Row (w.alloc (.cells #[.pointer (some ⟨b, 0, none⟩)] 239)) b te _ := h.alloc _
 have rp : Row (w.alloc (.cells #[.pointer (some ⟨b, 0, none⟩)] 239)) w.heap.size 239 [.pointer (some ⟨b, 0, none⟩)] := Row.new _ _ _
 have hdo := once_first b 0 192 #[.pointer (some ⟨w.heap.size, 0, none⟩)] _ (fun w2 => But b w w2 ∧ Row w2 w.heap.size 239 [.pointer (some ⟨b, 0, none⟩)] ∧ Row w2 b te (once0 1 ++ (vs kTab ++ vs hTab))) hrun (ra.cell 0 (by omega)) (ra.cell 1 (by omega)) (ra.frozen 1 (by omega)) (by
  refine (table_fill b w.heap.size (by omega) te _ (ra.set 1 (.int .i32 1)) (rp.setOther _ _ (by simp; omega))).mono ?_
  rintro e w2 ⟨rfl, hbut, hp2, hr⟩
  exact ⟨rfl, ⟨((But.pu ((Pu.refl w).alloc _)).trans (But.set _ _ _)).trans hbut, hp2, hr⟩, hr.cell 0 (by omega), hr.frozen 0 (by omega), hr.cell 1 (by omega), hr.frozen 1 (by omega)⟩)
 have hd2 := hdo.mono (R' := fun e w' => e = .returned (.tuple #[]) ∧ But b w w' ∧ w'.cell? ⟨w.heap.size, 0, none⟩ = some (.pointer (some ⟨b, 0, none⟩)) ∧ Row w' b te tableCells) (by
  rintro e w' ⟨rfl, w2, ⟨hb2, hp2, hr2⟩, rfl⟩
  have r1 := (hr2.drew.set 0 (.int .u32 1)).set 1 (.int .i32 0)
  refine ⟨rfl, ((hb2.trans (But.pu (Pu.refl w2).drew)).trans (But.set _ _ _)).trans (But.set _ _ _), ?_, ?_⟩
  · exact ((hp2.drew.setOther ⟨b, 0, none⟩ _ (by simp; omega)).setOther ⟨b, 1, none⟩ _ (by simp; omega)).cell 0 (by simp)
  · rw [tableCells, List.append_assoc]; exact r1)
 have HD := Lib.hid hd2
 clear hdo hrun hd2 l75 l75'
 go_enter Tryz.func189, Tryz.ntmps189
 go_wp2_with (go_at_call 72; refine HD.out.mono ?_; rintro e w1 ⟨rfl, hb2, c0, hrow⟩)
 go_ret
 exact ⟨rfl, hb2, hrow⟩
end Go.Proofs.YtoakccknimoogaaGreat
namespace Go.Proofs
open Go.Shelf
def Tryz.laysM316_ren : Go.Shelf.Ren := ⟨fun | 316 => 196 | n => n, fun | 9 => 9 | 3 => 3 | 4 => 4 | 37 => 51 | 0 => 0 | 127 => 196 | 5 => 5 | n => n, fun | n => n⟩
theorem Tryz.laysM316 : Go.Proofs.LaysM.n316 Tryz.prog Tryz.laysM316_ren := {
 mixed := by kernel_rfl
 f316 := Tryz.func196.trans (congrArg some (by kernel_rfl))
 t0 := Tryz.underlying0
 a0 := Tryz.isAgg0
 z0 := Tryz.sizeOf0
 v0 := Tryz.zeroValue0
 t3 := Tryz.underlying3
 a3 := Tryz.isAgg3
 z3 := Tryz.sizeOf3
 v3 := Tryz.zeroValue3
 t4 := Tryz.underlying4
 a4 := Tryz.isAgg4
 z4 := Tryz.sizeOf4
 v4 := Tryz.zeroValue4
 t9 := Tryz.underlying9
 a9 := Tryz.isAgg9
 z9 := Tryz.sizeOf9
 v9 := Tryz.zeroValue9
 t37 := Tryz.underlying51
 a37 := Tryz.isAgg51
 z37 := Tryz.sizeOf51
 v37 := Tryz.zeroValue51
 t127 := Tryz.underlying196
 a127 := Tryz.isAgg196
 z127 := Tryz.sizeOf196
 v127 := Tryz.zeroValue196
 t5 := Tryz.underlying5
 a5 := Tryz.isAgg5
 z5 := Tryz.sizeOf5
 v5 := Tryz.zeroValue5
 i0 := by kernel_rfl
 i3 := by kernel_rfl
 i4 := by kernel_rfl
 i5 := by kernel_rfl
 i9 := by kernel_rfl
 i37 := by kernel_rfl
 i127 := by kernel_rfl }
open Go.RowKit in
theorem Tryz.stringslite_Clone (s : ByteArray) (w : World) (hlim : s.size ≤ 281474976710656) :
 Calls Tryz.prog 196 #[.string s] w fun e w' => e = .returned (.string s) ∧ Below w.heap.size w w' := Any.stringslite_Clone Tryz.laysM316 s w hlim
end Go.Proofs
set_option linter.unusedSimpArgs false
set_option linter.unusedVariables false
namespace Go.Proofs.YtoakccknimoogaaGreat
open Go.RowKit Go.Esc
theorem clone (l : List UInt8) (hl : l.length ≤ 281474976710656) (w : World) :
 Calls Tryz.prog 191 #[S l] w fun e w' => e = .returned (S l) ∧ Pu w w' := by
 have hc := fun w => Tryz.stringslite_Clone (bs l) w (by rw [bs_size]; exact hl)
 have HC := Lib.hid hc
 clear hc
 go_enter Tryz.func191, Tryz.ntmps191
 go_wp2_with (go_at_call 196; refine (HC.out _).mono ?_; rintro e w1 ⟨rfl, hp1⟩)
 go_ret
 exact ⟨rfl, hp1⟩
end Go.Proofs.YtoakccknimoogaaGreat
namespace Go.Esc
theorem blocks_snoc (n : Nat) : ∀ (s : St) (m : Bs), blocks s m (n+1) = comp (blocks s m n) ((m.drop (64 * n)).take 64) := by
 induction n with
 | zero => intro s m; simp [blocks]
 | succ n ih =>
   intro s m
   rw [blocks, ih, blocks, List.drop_drop]
   rw [show 64 + 64 * n = 64 * (n + 1) by omega]
theorem blocks_append (n : Nat) : ∀ (s : St) (l b : Bs), 64 * n ≤ l.length → blocks s (l ++ b) n = blocks s l n := by
 induction n with
 | zero => intro s l b _; rfl
 | succ n ih =>
   intro s l b h
   rw [blocks, blocks, List.take_append_of_le_length (by omega), List.drop_append_of_le_length (by omega), ih _ _ _ (by simp; omega)]
/-- What stands of the bytes l in a digest. -/
def restOf (l : Bs) : Bs := l.drop (64 * (l.length / 64))
def wordsOf (l : Bs) : St := blocks initS l (l.length / 64)
theorem restOf_length (l : Bs) : (restOf l).length = l.length % 64 := by simp [restOf]; omega
theorem rest_append (l b : Bs) : restOf l ++ b = (l ++ b).drop (64 * (l.length / 64)) := by
 rw [restOf, List.drop_append_of_le_length (by omega)]
theorem words_append (l b : Bs) : wordsOf l = blocks initS (l ++ b) (l.length / 64) := by
 rw [wordsOf, blocks_append _ _ _ _ (by omega)]
theorem sha_words (l : Bs) : sha l = (wordsOf (l ++ shaPad l.length)).l.flatMap (fun w => putB w.toNat 4) := rfl
end Go.Esc
namespace Go.Esc
open Go Go.RowKit
section
variable {P : Program} {ops : Array Oper} {Q : Exit → Act → World → Prop}
theorem op_load {Φ : Value → World → Prop} {i : Nat} {o : Oper} {a' : Act} {w' : World} {v : Value} (ho : ops[i]? = some o) (hg : o.guard = none) (ty : TypeId) (x : Operand) (hop : o.op = .load ty x)
 (ad : Addr) (hx : a'.eval x = .pointer (some ad)) (hl : (loadVar ty ad).run P w' = .ok v w') (hφ : Φ (if o.dst.isSome then v else undef) w') :
 wpOp P ops Q i (fun a'' w'' => ∃ v, a'' = a'.put o.dst v ∧ Φ (if o.dst.isSome then v else undef) w'' ∧ Pu w' w'') a' w' :=
 op_val ho (wanted_none hg) (by unfold execOp; simp only [hop, hx, Instr.loadAt, Instr.sureAddr, Sem.run_bind, Sem.run_pure, Result.andThen_ok, hl]) hφ (Pu.refl _)
theorem op_store {K : Act → World → Prop} {i : Nat} {o : Oper} {a' : Act} {w' w'' : World} {v : Value} (ho : ops[i]? = some o) (hg : o.guard = none) (ty : TypeId) (x y : Operand) (hop : o.op = .store ty x y)
 (ad : Addr) (hx : a'.eval x = .pointer (some ad)) (hy : a'.eval y = v) (hl : (storeVar ty ad v).run P w' = .ok () w'') (hK : K (a'.put o.dst undef) w'') : wpOp P ops Q i K a' w' :=
 op_done ho (wanted_none hg) (by unfold execOp; simp only [hop, hx, hy, Instr.storeAt, Instr.sureAddr, Sem.run_bind, Sem.run_pure, Result.andThen_ok, hl]) hK
end
end Go.Esc
