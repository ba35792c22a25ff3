/- One block mixed in. -/
import Derived.Test.YtdjbhbefghihcaaSched
set_option linter.unusedSimpArgs false
set_option linter.unusedVariables false
namespace Go.Proofs.Ytdjbhbefghihcaa
open Go.RowKit Go.Esc
theorem Row.st {w : World} {g : Nat} {e : TypeId} {s : St} (h : Row w g e (vs s.l)) : w.cell? ⟨g, 0, none⟩ = some (V s.a) ∧ w.cell? ⟨g, 1, none⟩ = some (V s.b) ∧ w.cell? ⟨g, 2, none⟩ = some (V s.c) ∧ w.cell? ⟨g, 3, none⟩ = some (V s.d) ∧
    w.cell? ⟨g, 4, none⟩ = some (V s.e) ∧ w.cell? ⟨g, 5, none⟩ = some (V s.f) ∧ w.cell? ⟨g, 6, none⟩ = some (V s.g) ∧ w.cell? ⟨g, 7, none⟩ = some (V s.h) :=
  ⟨h.cell 0 (by simp [vs, St.l]), h.cell 1 (by simp [vs, St.l]), h.cell 2 (by simp [vs, St.l]), h.cell 3 (by simp [vs, St.l]), h.cell 4 (by simp [vs, St.l]), h.cell 5 (by simp [vs, St.l]), h.cell 6 (by simp [vs, St.l]), h.cell 7 (by simp [vs, St.l])⟩
/-- The cells of a table that is made. -/
def tableCells : List Value := [.int .u32 1, .int .i32 0, .int .u32 0] ++ vs kTab ++ vs hTab
theorem kTab_length : kTab.length = 64 := rfl
theorem hTab_length : hTab.length = 8 := rfl
theorem Row.k {w : World} {g : Nat} {e : TypeId} (h : Row w g e tableCells) (i : Nat) (hi : i < 64) : w.cell? ⟨g, 3 + i, none⟩ = some (V (kTab.getD i 0)) := by
  rw [h.cell' (3 + i) (by simp [tableCells, vs_length, kTab_length, hTab_length]; omega)]
  rw [tableCells, List.append_assoc, List.getElem?_append_right (by simp), List.getElem?_append_left (by rw [vs_length, kTab_length]; simp; omega)]
  simp only [List.length_cons, List.length_nil]
  rw [show 3 + i - (0 + 1 + 1 + 1) = i by omega, vs_get _ _ (by rw [kTab_length]; exact hi)]
def addTo (x s : List Wd) (j : Nat) : List Wd := (List.range 8).map fun i => if i < j then x.getD i 0 + s.getD i 0 else x.getD i 0
theorem addTo_length (x s : List Wd) (j : Nat) : (addTo x s j).length = 8 := by simp [addTo]
theorem addTo_set (x s : List Wd) (j : Nat) (_ : j < 8) : (addTo x s j).set j (x.getD j 0 + s.getD j 0) = addTo x s (j+1) := by
  apply List.ext_getElem
  · simp [addTo]
  · intro i h1 h2
    simp only [addTo_length, List.length_set] at h1 h2
    rw [List.getElem_set]
    simp only [addTo, List.getElem_map, List.getElem_range]
    by_cases h : j = i
    · subst h; simp
    · rw [if_neg h]
      by_cases h3 : i < j
      · rw [if_pos h3, if_pos (by omega)]
      · rw [if_neg h3, if_neg (by omega)]
theorem addTo_get (x s : List Wd) (j : Nat) (hj : j < 8) : (addTo x s j).getD j 0 = x.getD j 0 := by
  simp [addTo, hj]
theorem addTo_zero (x : St) (s : List Wd) : addTo x.l s 0 = x.l := rfl
theorem addTo_all (x s : St) : addTo x.l s.l 8 = (x.add s).l := rfl
theorem wd_max (a : BitVec 32) : Go.bits .xor .u32 IntKind.u32.max (wd a) = wd (~~~a) := wd_not a
attribute [go_sem] wd_max
theorem rounds_succ (w : List Wd) (s : St) (n : Nat) : rounds w s (n+1) = Esc.step (rounds w s n) (kTab.getD n 0) (w.getD n 0) := by
  simp [rounds, List.range_succ]
set_option maxRecDepth 100000 in
set_option maxHeartbeats 1000000 in
theorem mix (tb : Nat) (te : TypeId) (s : St) (sl : List Value) (hsl : sl = vs s.l) (b : Bs) (hb : b.length = 64) (w : World) (htab : Row w tb te tableCells) :
    Calls Try.prog 106 #[.pointer (some ⟨tb, 0, none⟩), .agg sl.toArray, S b] w fun e w' => ∃ l, l = vs (comp s b).l ∧ e = .returned (.agg l.toArray) ∧ Pu w w' := by
  have hsc := fun w => schedule b hb w
  have HS := Lib.hid hsc
  have HSL := Lib.hid hsl
  have hi64 : (Try.prog.info? 78).map (·.size) = some 64 := by kernel_rfl
  have hi8 : (Try.prog.info? 36).map (·.size) = some 8 := by kernel_rfl
  clear hsc hsl
  obtain ⟨res, hres⟩ : ∃ m, m = comp s b := ⟨_, rfl⟩
  rw [← hres]
  have HRES := Lib.hid hres
  have HTAB := Lib.hid htab
  clear hres htab
  have hsl8 : sl.length = 8 := by rw [HSL.out]; rfl
  have hone : sl.all (·.oneCell') = true := by rw [HSL.out]; rfl
  have htk : ((sl.drop 0).take 8) = sl := by rw [List.drop_zero, List.take_of_length_le (by omega)]
  go_enter Try.func106, Try.ntmps106
  go_wp2_with (first
    | (refine wpList_box rfl 36 (.tmp 1) rfl sl (by rfl) ?_; intro w0 hrs hp0 hz0)
    | (go_at_call 134; refine (HS.out _).mono ?_; rintro e w1 ⟨l, hl, rfl, hp1⟩; have HL := Lib.hid hl; clear hl
       have hl64 : l.length = 64 := by rw [HL.out, vs_length, sched_length]
       have hlone : l.all (·.oneCell') = true := by rw [HL.out]; simp [vs, Value.oneCell']
       have hG : w.heap.size + 2 ≤ w1.heap.size := by have h1 := hp1.size; simp at h1; omega
       have htab1 := ((HTAB.out.pu hp0).alloc _).pu hp1
       have hrs1 := (hrs.alloc _).pu hp1
       have hrb1 := (Row.newAt w0 (w.heap.size+1) _ _ hz0 rfl).pu hp1
       have hb1 : Below w.heap.size w w1 := (hp0.trans ((Pu.refl _).alloc _)).trans hp1
       clear hp1 hp0 hrs)
    | (refine wpList_store_part rfl 78 (.tmp 7) (.tmp 20) rfl w1.heap.size 0 l (by rfl) (by rfl) (Row.new _ _ _) (by rw [hl64]; exact hi64) (by rw [hl64]; decide) hlone ?_; intro w2 hrw hch2
       rw [splice_all (by rw [hl64]; rfl)] at hrw
       have hz2 : w2.heap.size = w1.heap.size + 1 := by rw [hch2.size]; simp
       have htab2 := hch2.row (htab1.alloc _) (by have := htab1.lt; have := HTAB.out.lt; omega)
       have hrs2 := hch2.row (hrs1.alloc _) (by omega)
       have hrb2 := hch2.row (hrb1.alloc _) (by omega)
       have hb2 : Below w.heap.size w w2 := hch2.below (hb1.alloc (by omega) _) (by omega)
       clear htab1 hrs1 hrb1 hb1 hch2)
    | (refine wpList_load_part rfl 36 (.tmp 4) rfl w.heap.size 0 8 (by rfl) hrs2 Try.underlying36 rfl hi8 (by omega) ?_; rw [htk])
    | (refine wpList_store_part rfl 36 (.tmp 8) (.tmp 21) rfl (w1.heap.size+1) 0 sl (by rfl) (by rfl) (Row.newAt w2 (w1.heap.size+1) _ _ hz2 rfl) (by rw [hsl8]; exact hi8) (by rw [hsl8]; decide) hone ?_; intro w3 hx hch3
       rw [splice_all (by rw [hsl8]; rfl)] at hx
       have htab3 := hch3.row (htab2.alloc _) (by have := HTAB.out.lt; omega)
       have hrs3 := hch3.row (hrs2.alloc _) (by omega)
       have hrb3 := hch3.row (hrb2.alloc _) (by omega)
       have hrw3 := hch3.row (hrw.alloc _) (by omega)
       have hb3 : Below w.heap.size w w3 := hch3.below (hb2.alloc (by omega) _) (by omega)
       clear htab2 hrs2 hrb2 hb2 hch3 hrw))
  rw [HSL.out] at hx
  obtain ⟨sc, hsc⟩ : ∃ sc, sc = sched b 64 := ⟨_, rfl⟩
  have hscl : sc.length = 64 := by rw [hsc, sched_length]
  have HSC := Lib.hid hsc
  have hrw4 : Row w3 w1.heap.size 78 (vs sc) := by rw [hsc, ← HL.out]; exact hrw3
  have hcall : ∀ args w, (callFunc 135 args).run Try.prog w = .ok (.enter 135 args) w := fun args w => run_callFunc_body Try.func135 (by kernel_rfl) (by kernel_rfl) args w
  clear hsc hrw3
  go_loopw [22] (fun i wr => ∃ n : Nat, n ≤ 64 ∧ i = .int .i64 n ∧ Row wr tb te tableCells ∧ Row wr w.heap.size 36 sl ∧ Row wr (w.heap.size+1) 36 (List.replicate 8 (.int .u32 0)) ∧ Row wr w1.heap.size 78 (vs sc) ∧ Row wr (w1.heap.size+1) 36 (vs (rounds sc s n).l) ∧ Below w.heap.size w wr) (fun i _ => 64 - (intOf i).toNat)
  case atStart => exact ⟨0, by omega, rfl, htab3, hrs3, hrb3, hrw4, hx, hb3⟩
  case round =>
    clear htab3 hrs3 hrb3 hrw4 hx hb3
    obtain ⟨n, hn, rfl, htab, hrs, hrb, hrw, hx, hbel⟩ := hrel
    by_cases hlt : n < 64
    · have hstep := rounds_succ sc s n
      obtain ⟨x, hxe⟩ : ∃ x, x = rounds sc s n := ⟨_, rfl⟩
      obtain ⟨kn, hkn⟩ : ∃ kn, kn = kTab.getD n 0 := ⟨_, rfl⟩
      obtain ⟨wn, hwn⟩ : ∃ wn, wn = sc.getD n 0 := ⟨_, rfl⟩
      rw [← hxe, ← hkn, ← hwn] at hstep
      rw [← hxe] at hx
      have HKN := Lib.hid hkn
      have HWN := Lib.hid hwn
      have HST := Lib.hid hstep
      have HXE := Lib.hid hxe
      have h0n : (0 : Int) ≤ n := by omega
      have h64n : (n : Int) < 64 := by omega
      have ht0 := HTAB.out.lt
      clear hstep hxe hkn hwn
      go_wp2_with fail
      apply region_pu (Φs := (Is _ :: Is _ :: Is _ :: Is _ :: Is _ :: Is _ :: Is _ :: Is _ :: Is _ :: [])) (hm := by kernel_rfl) (hE := by kernel_rfl) (hD := by kernel_rfl) (hsize := by kernel_rfl)
      case hop =>
        refine ⟨?_, ?_, ?_, ?_, ?_, ?_, ?_, ?_, ?_, trivial⟩
        · intro a' w' hs hp he
          have e8 := hs 8 (by kernel_rfl)
          try simp [Is, Region.binds] at he
          exact op_val rfl (wanted_none rfl) (by first | (go_simp; done) | (go_simp; rfl) | (simp [execOp, Act.eval, go_sem, *]; done) | (simp [execOp, Act.eval, go_sem, *]; rfl)) rfl (Pu.refl _)
        · intro a' w' hs hp he
          try simp [Is, Region.binds] at he
          obtain ⟨c0, c1, c2, c3, c4, c5, c6, c7⟩ := Row.st (hx.pu hp); exact op_val rfl (wanted_none rfl) (by first | (go_simp; done) | (go_simp; rfl)) rfl (Pu.refl _)
        · intro a' w' hs hp he
          have e8 := hs 8 (by kernel_rfl)
          try simp [Is, Region.binds] at he
          exact op_val rfl (wanted_none rfl) (by first | (go_simp; done) | (go_simp; rfl) | (simp [execOp, Act.eval, go_sem, *]; done) | (simp [execOp, Act.eval, go_sem, *]; rfl)) rfl (Pu.refl _)
        · intro a' w' hs hp he
          try simp [Is, Region.binds] at he
          obtain ⟨c0, c1, c2, c3, c4, c5, c6, c7⟩ := Row.st (hx.pu hp); exact op_val rfl (wanted_none rfl) (by first | (go_simp; done) | (go_simp; rfl)) rfl (Pu.refl _)
        · intro a' w' hs hp he
          have e8 := hs 8 (by kernel_rfl)
          try simp [Is, Region.binds] at he
          exact op_val rfl (wanted_none rfl) (by first | (go_simp; done) | (go_simp; rfl) | (simp [execOp, Act.eval, go_sem, *]; done) | (simp [execOp, Act.eval, go_sem, *]; rfl)) rfl (Pu.refl _)
        · intro a' w' hs hp he
          try simp [Is, Region.binds] at he
          obtain ⟨c0, c1, c2, c3, c4, c5, c6, c7⟩ := Row.st (hx.pu hp); exact op_val rfl (wanted_none rfl) (by first | (go_simp; done) | (go_simp; rfl)) rfl (Pu.refl _)
        · intro a' w' hs hp he
          try simp [Is, Region.binds] at he
          exact op_val rfl (wanted_none rfl) (by first | (go_simp; done) | (go_simp; rfl) | (simp [execOp, Act.eval, go_sem, *]; done) | (simp [execOp, Act.eval, go_sem, *]; rfl)) rfl (Pu.refl _)
        · intro a' w' hs hp he
          try simp [Is, Region.binds] at he
          exact op_val rfl (wanted_none rfl) (by first | (go_simp; done) | (go_simp; rfl) | (simp [execOp, Act.eval, go_sem, *]; done) | (simp [execOp, Act.eval, go_sem, *]; rfl)) rfl (Pu.refl _)
        · intro a' w' hs hp he
          try simp [Is, Region.binds] at he
          exact op_val rfl (wanted_none rfl) (by first | (go_simp; done) | (go_simp; rfl) | (simp [execOp, Act.eval, go_sem, *]; done) | (simp [execOp, Act.eval, go_sem, *]; rfl)) rfl (Pu.refl _)
      case hend =>
        intro a' w' hdef hsz hs hp hall
        obtain ⟨r0, r1, r2, r3, r4, r5, r6, r7, r8, -⟩ := hall
        have hA := agree_done (agree_step (agree_step (agree_step (agree_step (agree_step (agree_step (agree_step (agree_step (agree_step (agree_init [25, 26, 27, 28, 29, 30, 10, 11, 12] hsz hs (by kernel_rfl)) r0) r1) r2) r3) r4) r5) r6) r7) r8)
        have ha := act_of hA hdef
        rw [ha]
        clear ha hA hs hsz hdef r0 r1 r2 r3 r4 r5 r6 r7 r8 
        (try simp only [List.setIfInBounds_toArray])
        (try dsimp only [List.set_cons_zero, List.set_cons_succ])
        (try simp only [Exit.then])
        replace hx := hx.pu hp
        replace hrw := hrw.pu hp
        replace hrb := hrb.pu hp
        replace hrs := hrs.pu hp
        replace htab := htab.pu hp
        replace hbel := hbel.trans (Below.mono hp hbel.size)
        clear hp
        go_wp2_with fail
        apply region_pu (Φs := (Is _ :: Is _ :: Is _ :: Is _ :: Is _ :: Is _ :: Is _ :: Is _ :: Is _ :: Is _ :: Is _ :: Is _ :: Is _ :: Is _ :: Is _ :: Is _ :: Is _ :: Is _ :: Is _ :: Is _ :: Is _ :: Is _ :: Is _ :: Is _ :: Is _ :: Is _ :: [])) (hm := by kernel_rfl) (hE := by kernel_rfl) (hD := by kernel_rfl) (hsize := by kernel_rfl)
        case hop =>
          refine ⟨?_, ?_, ?_, ?_, ?_, ?_, ?_, ?_, ?_, ?_, ?_, ?_, ?_, ?_, ?_, ?_, ?_, ?_, ?_, ?_, ?_, ?_, ?_, ?_, ?_, ?_, trivial⟩
          · intro a' w' hs hp he
            have e8 := hs 8 (by kernel_rfl)
            try simp [Is, Region.binds] at he
            exact op_val rfl (wanted_none rfl) (by first | (go_simp; done) | (go_simp; rfl) | (simp [execOp, Act.eval, go_sem, *]; done) | (simp [execOp, Act.eval, go_sem, *]; rfl)) rfl (Pu.refl _)
          · intro a' w' hs hp he
            try simp [Is, Region.binds] at he
            obtain ⟨c0, c1, c2, c3, c4, c5, c6, c7⟩ := Row.st (hx.pu hp); exact op_val rfl (wanted_none rfl) (by first | (go_simp; done) | (go_simp; rfl)) rfl (Pu.refl _)
          · intro a' w' hs hp he
            have e10 := hs 10 (by kernel_rfl)
            try simp [Is, Region.binds] at he
            exact op_val rfl (wanted_none rfl) (by first | (go_simp; done) | (go_simp; rfl) | (simp [execOp, Act.eval, go_sem, *]; done) | (simp [execOp, Act.eval, go_sem, *]; rfl)) rfl (Pu.refl _)
          · intro a' w' hs hp he
            try simp [Is, Region.binds] at he
            exact op_callV (turned _ 6 11 25 (by decide) (by decide) (by decide) (by decide) (by decide) (by decide) _) rfl (wanted_none rfl) (by first | (go_simp; done) | (go_simp; rfl)) rfl
          · intro a' w' hs hp he
            try simp [Is, Region.binds] at he
            exact op_val rfl (wanted_none rfl) (by first | (go_simp; done) | (go_simp; rfl) | (simp [execOp, Act.eval, go_sem, *]; done) | (simp [execOp, Act.eval, go_sem, *]; rfl)) rfl (Pu.refl _)
          · intro a' w' hs hp he
            have e10 := hs 10 (by kernel_rfl)
            try simp [Is, Region.binds] at he
            exact op_val rfl (wanted_none rfl) (by first | (go_simp; done) | (go_simp; rfl) | (simp [execOp, Act.eval, go_sem, *]; done) | (simp [execOp, Act.eval, go_sem, *]; rfl)) rfl (Pu.refl _)
          · intro a' w' hs hp he
            have e11 := hs 11 (by kernel_rfl)
            try simp [Is, Region.binds] at he
            exact op_val rfl (wanted_none rfl) (by first | (go_simp; done) | (go_simp; rfl) | (simp [execOp, Act.eval, go_sem, *]; done) | (simp [execOp, Act.eval, go_sem, *]; rfl)) rfl (Pu.refl _)
          · intro a' w' hs hp he
            try simp [Is, Region.binds] at he
            exact op_val rfl (wanted_none rfl) (by first | (go_simp; done) | (go_simp; rfl) | (simp [execOp, Act.eval, go_sem, *]; done) | (simp [execOp, Act.eval, go_sem, *]; rfl)) rfl (Pu.refl _)
          · intro a' w' hs hp he
            have e10 := hs 10 (by kernel_rfl)
            try simp [Is, Region.binds] at he
            exact op_val rfl (wanted_none rfl) (by first | (go_simp; done) | (go_simp; rfl) | (simp [execOp, Act.eval, go_sem, *]; done) | (simp [execOp, Act.eval, go_sem, *]; rfl)) rfl (Pu.refl _)
          · intro a' w' hs hp he
            try simp [Is, Region.binds] at he
            exact op_val rfl (wanted_none rfl) (by first | (go_simp; done) | (go_simp; rfl) | (simp [execOp, Act.eval, go_sem, *]; done) | (simp [execOp, Act.eval, go_sem, *]; rfl)) rfl (Pu.refl _)
          · intro a' w' hs hp he
            have e12 := hs 12 (by kernel_rfl)
            try simp [Is, Region.binds] at he
            exact op_val rfl (wanted_none rfl) (by first | (go_simp; done) | (go_simp; rfl) | (simp [execOp, Act.eval, go_sem, *]; done) | (simp [execOp, Act.eval, go_sem, *]; rfl)) rfl (Pu.refl _)
          · intro a' w' hs hp he
            try simp [Is, Region.binds] at he
            exact op_val rfl (wanted_none rfl) (by first | (go_simp; done) | (go_simp; rfl) | (simp [execOp, Act.eval, go_sem, *]; done) | (simp [execOp, Act.eval, go_sem, *]; rfl)) rfl (Pu.refl _)
          · intro a' w' hs hp he
            try simp [Is, Region.binds] at he
            exact op_val rfl (wanted_none rfl) (by first | (go_simp; done) | (go_simp; rfl) | (simp [execOp, Act.eval, go_sem, *]; done) | (simp [execOp, Act.eval, go_sem, *]; rfl)) rfl (Pu.refl _)
          · intro a' w' hs hp he
            try simp [Is, Region.binds] at he
            exact op_val rfl (wanted_none rfl) (by first | (go_simp; done) | (go_simp; rfl) | (simp [execOp, Act.eval, go_sem, *]; done) | (simp [execOp, Act.eval, go_sem, *]; rfl)) rfl (Pu.refl _)
          · intro a' w' hs hp he
            have e0 := hs 0 (by kernel_rfl)
            try simp [Is, Region.binds] at he
            exact op_val rfl (wanted_none rfl) (by first | (go_simp; done) | (go_simp; rfl) | (simp [execOp, Act.eval, go_sem, *]; done) | (simp [execOp, Act.eval, go_sem, *]; rfl)) rfl (Pu.refl _)
          · intro a' w' hs hp he
            have e9 := hs 9 (by kernel_rfl)
            try simp [Is, Region.binds] at he
            exact op_val rfl (wanted_none rfl) (by first | (go_simp; done) | (go_simp; rfl) | (simp [execOp, Act.eval, go_sem, *]; done) | (simp [execOp, Act.eval, go_sem, *]; rfl)) rfl (Pu.refl _)
          · intro a' w' hs hp he
            try simp [Is, Region.binds] at he
            exact op_val rfl (wanted_none rfl) (by first | (go_simp; done) | (go_simp; rfl) | (simp [execOp, Act.eval, go_sem, *]; done) | (simp [execOp, Act.eval, go_sem, *]; rfl)) rfl (Pu.refl _)
          · intro a' w' hs hp he
            try simp [Is, Region.binds] at he
            exact op_val rfl (wanted_none rfl) (by first | (go_simp; done) | (go_simp; rfl) | (simp [execOp, Act.eval, go_sem, *]; done) | (simp [execOp, Act.eval, go_sem, *]; rfl)) rfl (Pu.refl _)
          · intro a' w' hs hp he
            try simp [Is, Region.binds] at he
            exact op_val rfl (wanted_none rfl) (by first | (go_simp; done) | (go_simp; rfl) | (simp [execOp, Act.eval, go_sem, *]; done) | (simp [execOp, Act.eval, go_sem, *]; rfl)) rfl (Pu.refl _)
          · intro a' w' hs hp he
            try simp [Is, Region.binds] at he
            have c := Row.k (htab.pu hp) n (by omega); rw [← HKN.out] at c; exact op_val rfl (wanted_none rfl) (by first | (go_simp; done) | (go_simp; rfl)) rfl (Pu.refl _)
          · intro a' w' hs hp he
            try simp [Is, Region.binds] at he
            exact op_val rfl (wanted_none rfl) (by first | (go_simp; done) | (go_simp; rfl) | (simp [execOp, Act.eval, go_sem, *]; done) | (simp [execOp, Act.eval, go_sem, *]; rfl)) rfl (Pu.refl _)
          · intro a' w' hs hp he
            have e9 := hs 9 (by kernel_rfl)
            try simp [Is, Region.binds] at he
            exact op_val rfl (wanted_none rfl) (by first | (go_simp; done) | (go_simp; rfl) | (simp [execOp, Act.eval, go_sem, *]; done) | (simp [execOp, Act.eval, go_sem, *]; rfl)) rfl (Pu.refl _)
          · intro a' w' hs hp he
            have e7 := hs 7 (by kernel_rfl)
            try simp [Is, Region.binds] at he
            exact op_val rfl (wanted_none rfl) (by first | (go_simp; done) | (go_simp; rfl) | (simp [execOp, Act.eval, go_sem, *]; done) | (simp [execOp, Act.eval, go_sem, *]; rfl)) rfl (Pu.refl _)
          · intro a' w' hs hp he
            try simp [Is, Region.binds] at he
            have c := Row.word (hrw.pu hp) n (by omega); rw [← HWN.out] at c; exact op_val rfl (wanted_none rfl) (by first | (go_simp; done) | (go_simp; rfl)) rfl (Pu.refl _)
          · intro a' w' hs hp he
            try simp [Is, Region.binds] at he
            exact op_val rfl (wanted_none rfl) (by first | (go_simp; done) | (go_simp; rfl) | (simp [execOp, Act.eval, go_sem, *]; done) | (simp [execOp, Act.eval, go_sem, *]; rfl)) rfl (Pu.refl _)
          · intro a' w' hs hp he
            try simp [Is, Region.binds] at he
            exact op_val rfl (wanted_none rfl) (by first | (go_simp; done) | (go_simp; rfl) | (simp [execOp, Act.eval, go_sem, *]; done) | (simp [execOp, Act.eval, go_sem, *]; rfl)) rfl (Pu.refl _)
        case hend =>
          intro a' w' hdef hsz hs hp hall
          obtain ⟨r0, r1, r2, r3, r4, r5, r6, r7, r8, r9, r10, r11, r12, r13, r14, r15, r16, r17, r18, r19, r20, r21, r22, r23, r24, r25, -⟩ := hall
          have hA := agree_done (agree_step (agree_step (agree_step (agree_step (agree_step (agree_step (agree_step (agree_step (agree_step (agree_step (agree_step (agree_step (agree_step (agree_step (agree_step (agree_step (agree_step (agree_step (agree_step (agree_step (agree_step (agree_step (agree_step (agree_step (agree_step (agree_step (agree_init [31, 32, 33, 34, 35, 36, 37, 38, 39, 40, 41, 42, 43, 44, 45, 46, 47, 48, 49, 50, 51, 52, 53, 54, 55, 13] hsz hs (by kernel_rfl)) r0) r1) r2) r3) r4) r5) r6) r7) r8) r9) r10) r11) r12) r13) r14) r15) r16) r17) r18) r19) r20) r21) r22) r23) r24) r25)
          have ha := act_of hA hdef
          rw [ha]
          clear ha hA hs hsz hdef r0 r1 r2 r3 r4 r5 r6 r7 r8 r9 r10 r11 r12 r13 r14 r15 r16 r17 r18 r19 r20 r21 r22 r23 r24 r25 
          (try simp only [List.setIfInBounds_toArray])
          (try dsimp only [List.set_cons_zero, List.set_cons_succ])
          (try simp only [Exit.then])
          replace hx := hx.pu hp
          replace hrw := hrw.pu hp
          replace hrb := hrb.pu hp
          replace hrs := hrs.pu hp
          replace htab := htab.pu hp
          replace hbel := hbel.trans (Below.mono hp hbel.size)
          clear hp
          go_wp2_with fail
          apply region_pu (Φs := (Is _ :: Is _ :: Is _ :: Is _ :: Is _ :: Is _ :: Is _ :: Is _ :: Is _ :: [])) (hm := by kernel_rfl) (hE := by kernel_rfl) (hD := by kernel_rfl) (hsize := by kernel_rfl)
          case hop =>
            refine ⟨?_, ?_, ?_, ?_, ?_, ?_, ?_, ?_, ?_, trivial⟩
            · intro a' w' hs hp he
              have e8 := hs 8 (by kernel_rfl)
              try simp [Is, Region.binds] at he
              exact op_val rfl (wanted_none rfl) (by first | (go_simp; done) | (go_simp; rfl) | (simp [execOp, Act.eval, go_sem, *]; done) | (simp [execOp, Act.eval, go_sem, *]; rfl)) rfl (Pu.refl _)
            · intro a' w' hs hp he
              try simp [Is, Region.binds] at he
              obtain ⟨c0, c1, c2, c3, c4, c5, c6, c7⟩ := Row.st (hx.pu hp); exact op_val rfl (wanted_none rfl) (by first | (go_simp; done) | (go_simp; rfl)) rfl (Pu.refl _)
            · intro a' w' hs hp he
              have e8 := hs 8 (by kernel_rfl)
              try simp [Is, Region.binds] at he
              exact op_val rfl (wanted_none rfl) (by first | (go_simp; done) | (go_simp; rfl) | (simp [execOp, Act.eval, go_sem, *]; done) | (simp [execOp, Act.eval, go_sem, *]; rfl)) rfl (Pu.refl _)
            · intro a' w' hs hp he
              try simp [Is, Region.binds] at he
              obtain ⟨c0, c1, c2, c3, c4, c5, c6, c7⟩ := Row.st (hx.pu hp); exact op_val rfl (wanted_none rfl) (by first | (go_simp; done) | (go_simp; rfl)) rfl (Pu.refl _)
            · intro a' w' hs hp he
              have e8 := hs 8 (by kernel_rfl)
              try simp [Is, Region.binds] at he
              exact op_val rfl (wanted_none rfl) (by first | (go_simp; done) | (go_simp; rfl) | (simp [execOp, Act.eval, go_sem, *]; done) | (simp [execOp, Act.eval, go_sem, *]; rfl)) rfl (Pu.refl _)
            · intro a' w' hs hp he
              try simp [Is, Region.binds] at he
              obtain ⟨c0, c1, c2, c3, c4, c5, c6, c7⟩ := Row.st (hx.pu hp); exact op_val rfl (wanted_none rfl) (by first | (go_simp; done) | (go_simp; rfl)) rfl (Pu.refl _)
            · intro a' w' hs hp he
              try simp [Is, Region.binds] at he
              exact op_val rfl (wanted_none rfl) (by first | (go_simp; done) | (go_simp; rfl) | (simp [execOp, Act.eval, go_sem, *]; done) | (simp [execOp, Act.eval, go_sem, *]; rfl)) rfl (Pu.refl _)
            · intro a' w' hs hp he
              try simp [Is, Region.binds] at he
              exact op_val rfl (wanted_none rfl) (by first | (go_simp; done) | (go_simp; rfl) | (simp [execOp, Act.eval, go_sem, *]; done) | (simp [execOp, Act.eval, go_sem, *]; rfl)) rfl (Pu.refl _)
            · intro a' w' hs hp he
              try simp [Is, Region.binds] at he
              exact op_val rfl (wanted_none rfl) (by first | (go_simp; done) | (go_simp; rfl) | (simp [execOp, Act.eval, go_sem, *]; done) | (simp [execOp, Act.eval, go_sem, *]; rfl)) rfl (Pu.refl _)
          case hend =>
            intro a' w' hdef hsz hs hp hall
            obtain ⟨r0, r1, r2, r3, r4, r5, r6, r7, r8, -⟩ := hall
            have hA := agree_done (agree_step (agree_step (agree_step (agree_step (agree_step (agree_step (agree_step (agree_step (agree_step (agree_init [56, 57, 58, 59, 60, 61, 14, 15, 16] hsz hs (by kernel_rfl)) r0) r1) r2) r3) r4) r5) r6) r7) r8)
            have ha := act_of hA hdef
            rw [ha]
            clear ha hA hs hsz hdef r0 r1 r2 r3 r4 r5 r6 r7 r8 
            (try simp only [List.setIfInBounds_toArray])
            (try dsimp only [List.set_cons_zero, List.set_cons_succ])
            (try simp only [Exit.then])
            replace hx := hx.pu hp
            replace hrw := hrw.pu hp
            replace hrb := hrb.pu hp
            replace hrs := hrs.pu hp
            replace htab := htab.pu hp
            replace hbel := hbel.trans (Below.mono hp hbel.size)
            clear hp
            obtain ⟨c0, c1, c2, c3, c4, c5, c6, c7⟩ := Row.st hx
            go_wp2_with (first
              | (go_at_call 135; refine (turned _ 2 13 22 (by decide) (by decide) (by decide) (by decide) (by decide) (by decide) _).mono ?_; rintro e w4 ⟨rfl, rfl⟩)
              | (refine wpList_built rfl 36 _ rfl (vs (Esc.step x kn wn).l) (by kernel_rfl) ?_; generalize hst : (vs (Esc.step x kn wn).l) = st; have HSTE := Lib.hid hst; clear hst)
              | (refine wpList_store_part rfl 36 (.tmp 8) (.tmp 89) rfl (w1.heap.size+1) 0 st (by rfl) (by rfl) hx (by rw [← HSTE.out]; exact hi8) (by rw [← HSTE.out]; exact Nat.le_refl 8) (by rw [← HSTE.out]; rfl) ?_; intro w5 hx5 hch5))
            rw [splice_all (by rw [← HSTE.out]; rfl), ← HSTE.out, ← HST.out] at hx5
            replace hrw := hch5.row hrw (by omega)
            replace hrb := hch5.row hrb (by omega)
            replace hrs := hch5.row hrs (by omega)
            replace htab := hch5.row htab (by omega)
            replace hbel := hch5.below hbel (by omega)
            go_roundw
            case rel => exact ⟨n + 1, by omega, by go_num, htab, hrs, hrb, hrw, hx5, hbel⟩
            case measure => simp [intOf]; omega
    · obtain rfl : n = 64 := by omega
      obtain ⟨x, hxe⟩ : ∃ x, x = rounds sc s 64 := ⟨_, rfl⟩
      rw [← hxe] at hx
      have hfin : res = x.add s := by rw [HRES.out, hxe, HSC.out]; rfl
      have HFIN := Lib.hid hfin
      rw [HSL.out] at hrs
      have ht0 := HTAB.out.lt
      clear hxe hfin
      go_wp2_with fail
      go_loopw [91] (fun i wq => ∃ m : Nat, m ≤ 8 ∧ i = .int .i64 m ∧ Row wq w.heap.size 36 (vs s.l) ∧ Row wq (w.heap.size+1) 36 (List.replicate 8 (.int .u32 0)) ∧ Row wq (w1.heap.size+1) 36 (vs (addTo x.l s.l m)) ∧ Below w.heap.size w wq) (fun i _ => 8 - (intOf i).toNat)
      case atStart => exact ⟨0, by omega, rfl, hrs, hrb, hx, hbel⟩
      case round =>
        clear hrs hrb hx hbel htab hrw
        obtain ⟨m, hm, rfl, hrs, hrb, hx, hbel⟩ := hrel
        by_cases hlm : m < 8
        · obtain ⟨xm, hxm⟩ : ∃ v, v = x.l.getD m 0 := ⟨_, rfl⟩
          obtain ⟨sm, hsm⟩ : ∃ v, v = s.l.getD m 0 := ⟨_, rfl⟩
          have hset := addTo_set x.l s.l m hlm
          rw [← hxm, ← hsm] at hset
          have HX := Lib.hid hxm
          have HS' := Lib.hid hsm
          have HSET := Lib.hid hset
          have h0m : (0 : Int) ≤ m := by omega
          have h8m : (m : Int) < 8 := by omega
          clear hxm hsm hset
          go_wp2_with fail
          apply region_last (n := 8) (hn := by kernel_rfl) (hlast := rfl) (hU := by kernel_rfl) (Φs := (Is _ :: Is _ :: Is _ :: Is _ :: Is _ :: Is _ :: Is _ :: Is _ :: [])) (hm := by kernel_rfl) (hE := by kernel_rfl) (hD := by kernel_rfl) (hsize := by kernel_rfl)
          case hop =>
            refine ⟨?_, ?_, ?_, ?_, ?_, ?_, ?_, ?_, trivial⟩
            · intro a' w' hs hp he
              have e18 := hs 18 (by kernel_rfl)
              try simp [Is, Region.binds] at he
              exact op_val rfl (wanted_none rfl) (by first | (go_simp; done) | (go_simp; rfl) | (simp [execOp, Act.eval, go_sem, *]; done) | (simp [execOp, Act.eval, go_sem, *]; rfl)) rfl (Pu.refl _)
            · intro a' w' hs hp he
              have e8 := hs 8 (by kernel_rfl)
              try simp [Is, Region.binds] at he
              exact op_val rfl (wanted_none rfl) (by first | (go_simp; done) | (go_simp; rfl) | (simp [execOp, Act.eval, go_sem, *]; done) | (simp [execOp, Act.eval, go_sem, *]; rfl)) rfl (Pu.refl _)
            · intro a' w' hs hp he
              try simp [Is, Region.binds] at he
              have c := Row.word (hx.pu hp) m (by rw [addTo_length]; omega); rw [addTo_get _ _ _ hlm, ← HX.out] at c; exact op_val rfl (wanted_none rfl) (by first | (go_simp; done) | (go_simp; rfl)) rfl (Pu.refl _)
            · intro a' w' hs hp he
              have e18 := hs 18 (by kernel_rfl)
              try simp [Is, Region.binds] at he
              exact op_val rfl (wanted_none rfl) (by first | (go_simp; done) | (go_simp; rfl) | (simp [execOp, Act.eval, go_sem, *]; done) | (simp [execOp, Act.eval, go_sem, *]; rfl)) rfl (Pu.refl _)
            · intro a' w' hs hp he
              have e4 := hs 4 (by kernel_rfl)
              try simp [Is, Region.binds] at he
              exact op_val rfl (wanted_none rfl) (by first | (go_simp; done) | (go_simp; rfl) | (simp [execOp, Act.eval, go_sem, *]; done) | (simp [execOp, Act.eval, go_sem, *]; rfl)) rfl (Pu.refl _)
            · intro a' w' hs hp he
              try simp [Is, Region.binds] at he
              have c := Row.word (hrs.pu hp) m (by show m < 8; omega); rw [← HS'.out] at c; exact op_val rfl (wanted_none rfl) (by first | (go_simp; done) | (go_simp; rfl)) rfl (Pu.refl _)
            · intro a' w' hs hp he
              try simp [Is, Region.binds] at he
              exact op_val rfl (wanted_none rfl) (by first | (go_simp; done) | (go_simp; rfl) | (simp [execOp, Act.eval, go_sem, *]; done) | (simp [execOp, Act.eval, go_sem, *]; rfl)) rfl (Pu.refl _)
            · intro a' w' hs hp he
              have e8 := hs 8 (by kernel_rfl)
              try simp [Is, Region.binds] at he
              exact op_val rfl (wanted_none rfl) (by first | (go_simp; done) | (go_simp; rfl) | (simp [execOp, Act.eval, go_sem, *]; done) | (simp [execOp, Act.eval, go_sem, *]; rfl)) rfl (Pu.refl _)
          case hend =>
            intro a' w' hdef hsz hs hp hall
            obtain ⟨r0, r1, r2, r3, r4, r5, r6, r7, -⟩ := hall
            have hA := agree_done (agree_step (agree_step (agree_step (agree_step (agree_step (agree_step (agree_step (agree_step (agree_init [94, 95, 96, 97, 98, 99, 100, 101] hsz hs (by kernel_rfl)) r0) r1) r2) r3) r4) r5) r6) r7)
            have ha := act_of hA hdef
            rw [ha]
            clear ha hA hs hsz hdef r0 r1 r2 r3 r4 r5 r6 r7 
            (try simp only [List.setIfInBounds_toArray])
            (try dsimp only [List.set_cons_zero, List.set_cons_succ])
            (try simp only [Exit.then])
            have c := Row.word (hx.pu hp) m (by rw [addTo_length]; omega); rw [addTo_get _ _ _ hlm, ← HX.out] at c; have hf := (hx.pu hp).frozen m (by rw [vs_length, addTo_length]; omega)
            refine op_done rfl (wanted_none rfl) (by first | (go_simp; done) | (go_simp; rfl)) ?_
            (try simp only [Exit.inBlock, Exit.then])
            go_wp2_with fail
            go_roundw
            case rel =>
              replace hx := hx.pu hp
              replace hrs := hrs.pu hp
              replace hrb := hrb.pu hp
              replace hbel := hbel.trans (Below.mono hp hbel.size)
              refine ⟨_, _, _, _, _, _, _, _, _, _, _, _, _, ⟨m + 1, by omega, ?_, hrs.setOther _ _ (by simp; omega), hrb.setOther _ _ (by simp; omega), ?_, hbel.setCell (by simp; omega) _⟩, rfl⟩
              · go_num
              have := hx.set m (V (xm + sm))
              rw [vs_set, HSET.out] at this
              exact this
            case measure => simp [intOf]; omega
        · obtain rfl : m = 8 := by omega
          rw [addTo_all, ← HFIN.out] at hx
          obtain ⟨l2, hl2⟩ : ∃ l, l = vs res.l := ⟨_, rfl⟩
          rw [← hl2] at hx
          have hl28 : l2.length = 8 := by rw [hl2]; rfl
          have hone2 : l2.all (·.oneCell') = true := by rw [hl2]; rfl
          have htk2 : ((l2.drop 0).take 8) = l2 := by rw [List.drop_zero, List.take_of_length_le (by omega)]
          have HL2 := Lib.hid hl2
          clear hl2
          go_wp2_with (first
            | (refine wpList_load_part rfl 36 (.tmp 8) rfl (w1.heap.size+1) 0 8 (by rfl) hx Try.underlying36 rfl hi8 (by omega) ?_; rw [htk2])
            | (refine wpList_store_part rfl 36 (.tmp 6) (.tmp 103) rfl (w.heap.size+1) 0 l2 (by rfl) (by rfl) hrb (by rw [hl28]; exact hi8) (by rw [hl28]; decide) hone2 ?_; intro w6 hr6 hch6))
          rw [splice_all (by rw [hl28]; rfl)] at hr6
          have hrl := hr6.load (P := Try.prog) 36 0 8 Try.underlying36 rfl hi8 (by omega)
          rw [htk2] at hrl
          (try simp only [Exit.inBlock, Exit.then])
          refine bodyPost_ret (results_cell_eq rfl _ _ rfl hrl) rfl ?_
          exact ⟨l2, HL2.out, rfl, hch6.below hbel (by omega)⟩
end Go.Proofs.Ytdjbhbefghihcaa
