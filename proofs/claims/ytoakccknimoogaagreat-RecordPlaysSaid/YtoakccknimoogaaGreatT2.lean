/- The document's PutBig and Big. A law for regions that draw their order. A law for regions that draw their order and whose last operation, which comes behind all others, writes. Digits. octet.Unhex of digits that are some bytes'. -/
import Derived.Test.YtoakccknimoogaaGreatT1
import Derived.Orders
import Derived.Below
import Derived.KernelRfl
set_option linter.unusedSimpArgs false
set_option linter.unusedVariables false
set_option linter.unusedSimpArgs false
set_option linter.unusedVariables false
namespace Go.Esc
open Go Go.RowKit
theorem and255 (v : Nat) (h : v < 18446744073709551616) : Go.bits .and .u64 (v : Int) 255 = ((v % 256 : Nat) : Int) := by
 rw [show (255 : Int) = ((255 : Nat) : Int) from rfl, u64_and _ _ (by omega) (by omega) (by omega) (by omega)]
 congr 1
 rw [Int.toNat_natCast, Int.toNat_natCast, show (255 : Nat) = 2 ^ 8 - 1 from rfl, Nat.and_two_pow_sub_one_eq_mod]
end Go.Esc
namespace Go.Proofs.YtoakccknimoogaaGreat
open Go.RowKit Go.Esc
set_option maxHeartbeats 800000 in
theorem refPutBig (v : Int) (n : Int) (w : World) (hv : 0 ≤ v) (hv2 : v < 18446744073709551616) (hn : 1 ≤ n) (hn8 : n ≤ 8) :
 Calls Tryz.prog 26 #[.int .u64 v, .int .i64 n] w fun e w' => e = .returned (S (putB v.toNat n.toNat)) ∧ Pu w w' := by
 obtain ⟨i0, hi, hz0, hz1, hz2⟩ := info_parts infoB
 obtain ⟨m, rfl⟩ := Int.eq_ofNat_of_zero_le (by omega : 0 ≤ n)
 obtain ⟨u, rfl⟩ := Int.eq_ofNat_of_zero_le (by omega : 0 ≤ v)
 have h1 : decide ((m:Int) < 1) = false := by simp; omega
 have h2 : decide ((8:Int) < m) = false := by simp; omega
 go_enter Tryz.func26, Tryz.ntmps26
 go_wp2_with (at_make; refine wpList_make_full _ rfl _ _ 51 rfl w.heap.size 5 i0 (.int .u8 0) 1 Tryz.underlying51 hi hz0 hz1 _ _ _ _ m rfl rfl rfl rfl (by rw [hz2]; omega) (by unfold maxLen; omega) (Nat.le_refl _) ?_; intro w1 hown hgrow)
 go_loopw [0, 6] (fun x i wr => ∃ k : Nat, k ≤ m ∧ x = .int .u64 ((u / 256 ^ k : Nat) : Int) ∧ i = .int .i64 ((m : Int) - 1 - k) ∧ wr.ownsRow w.heap.size 5 1 (.slice (some ⟨w.heap.size, 0, none⟩) m m) m (cells (List.replicate (m-k) 0 ++ putB u k)) ∧ Below w.heap.size w wr) (fun _ i _ => (intOf i + 1).toNat)
 case atStart => exact ⟨0, Nat.zero_le _, by simp, by go_num, by rw [madeZ] at hown; simpa [putB] using hown, (Below.refl _ _).grown hgrow (Nat.le_refl _) (by simp)⟩
 case round =>
  obtain ⟨k, hk, rfl, rfl, hown, hbel⟩ := hrel
  by_cases hlt : k < m
  · have hl : (List.replicate (m-k) 0 ++ putB u k).length = m := by simp [putB_length]; omega
    obtain ⟨p, hpp⟩ : ∃ p, p = m - 1 - k := ⟨_, rfl⟩
    have hpm : p < m := by omega
    have hpl : p < (List.replicate (m-k) 0 ++ putB u k).length := by omega
    have HPP := Lib.hid hpp
    have hpi : (m : Int) - 1 - k = (p : Int) := by omega
    have hse : (cells (List.replicate (m-k) 0 ++ putB u k)).set p (.int .u8 ((u / 2^(8*k) % 256 : Nat) : Int)) = cells (List.replicate (m-(k+1)) 0 ++ putB u (k+1)) := by rw [hpp]; exact set_big u m k hlt
    clear hpp
    have hc := hown.cellAt p (by rw [Nat.mul_one]; exact hpm)
    rw [cells_get _ _ hpl] at hc
    have hf := hown.frozenAt p
    have hst := hown.stored p (.int .u8 ((u / 2^(8*k) % 256 : Nat) : Int))
    rw [hse] at hst
    clear hse
    obtain ⟨y, hy⟩ : ∃ y, y = u / 256 ^ k := ⟨_, rfl⟩
    have hyl : y < 18446744073709551616 := by rw [hy]; exact Nat.lt_of_le_of_lt (Nat.div_le_self _ _) (by omega)
    have hp : u / 2 ^ (8*k) = y := by rw [hy, Nat.pow_mul]
    have hn : u / 256 ^ (k+1) = y / 256 := by rw [hy, Nat.pow_succ, Nat.div_div_eq_div_mul]
    rw [hp] at hst
    rw [← hy]
    have ha := and255 y hyl
    have hw : IntKind.u8.wrap ((y % 256 : Nat) : Int) = ((y % 256 : Nat) : Int) := by rw [IntKind.wrap_u8]; omega
    have hq : ((y : Int)).tdiv 256 = ((y / 256 : Nat) : Int) := by rw [Int.tdiv_eq_ediv_of_nonneg (by omega)]; omega
    have hpm' : (p : Int) < m := by omega
    have hp0 : (0 : Int) ≤ p := by omega
    have hi4 : IntKind.i64.wrap ((p : Int) - 1) = p - 1 := by rw [IntKind.wrap_i64]; omega
    rw [hpi]
    obtain ⟨r, hr⟩ : ∃ r, r = y % 256 := ⟨_, rfl⟩
    obtain ⟨q, hq2⟩ : ∃ q, q = y / 256 := ⟨_, rfl⟩
    rw [← hr] at ha hw hst
    rw [← hq2] at hq hn
    have hr256 : r < 256 := by omega
    have hql : IntKind.u64.wrap (q : Int) = q := by rw [IntKind.wrap_u64]; omega
    have HN := Lib.hid hn
    clear hy hp hn hr hq2 hv2 hyl hpi
    go_wp2_with fail
    go_roundw
    case rel => exact ⟨k+1, by omega, by rw [HN.out], by have := HPP.out; rw [show (m : Int) - 1 - ((k+1 : Nat) : Int) = (p : Int) - 1 by omega], hst.1, hbel.grown hst.2 hbel.size (by simp)⟩
    case measure => first | (simp [intOf]; done) | (simp [intOf]; omega)
  · obtain rfl : k = m := by omega
    simp only [Nat.sub_self, List.replicate_zero, List.nil_append] at hown
    have hcv := own_conv (P := Tryz.prog) 51 9 hown Tryz.underlying51 Tryz.underlying5 Tryz.underlying9
    obtain ⟨y, hy⟩ : ∃ y, y = u / 256 ^ k := ⟨_, rfl⟩
    rw [← hy]
    have hneg : decide ((0 : Int) ≤ (k : Int) - 1 - k) = false := by simp; omega
    have hneg2 : ¬ ((0 : Int) ≤ (k : Int) - 1 - k) := by omega
    have hneg3 : (k : Int) - 1 - k = -1 := by omega
    clear hy
    go_wp2_with fail
    go_ret
    exact ⟨rfl, hbel⟩
set_option maxHeartbeats 800000 in
theorem refBig (l : List UInt8) (w : World) (hl : l.length ≤ 8) :
 Calls Tryz.prog 35 #[S l] w fun e w' => e = .returned (.int .u64 (beN l)) ∧ w' = w := by
 have hm0 : IntKind.i64.wrap ((l.length : Int) - 8) = l.length - 8 := by rw [IntKind.wrap_i64]; omega
 have hm1 : max ((l.length : Int) - 8) 0 = 0 := by omega
 by_cases h8 : l.length = 8
 · have hx : (l.length : Int) - 8 = 0 := by omega
   clear hm1
   go_enter Tryz.func35, Tryz.ntmps35
   go_wp2_with fail
   go_loop [3, 4] (fun v i => ∃ k : Nat, k ≤ l.length ∧ i = .int .i64 k ∧ v = .int .u64 (beN (l.take k))) (fun _ i => l.length - (intOf i).toNat)
   case atStart => exact ⟨0, by omega, rfl, rfl⟩
   case round =>
    obtain ⟨k, hk, rfl, rfl⟩ := hrel
    by_cases hlt : k < l.length
    · have hb : beN (l.take k) ≤ 72057594037927935 := beN_le (by simp; omega)
      have hs := beN_take_succ l k hlt
      obtain ⟨x, hx⟩ : ∃ x, x = beN (l.take k) := ⟨_, rfl⟩
      obtain ⟨c, hc⟩ : ∃ c, l[k] = c := ⟨_, rfl⟩
      have hu := c.toNat_lt
      rw [← hx] at hb hs
      rw [hc] at hs
      rw [← hx]
      have q1 : IntKind.u64.wrap ((x : Int) * 256) = x * 256 := by rw [IntKind.wrap_u64]; omega
      have q2 : IntKind.u64.wrap ((x : Int) * 256 + c.toNat) = x * 256 + c.toNat := by rw [IntKind.wrap_u64]; omega
      have q3 : IntKind.u64.wrap (c.toNat : Int) = c.toNat := by rw [IntKind.wrap_u64]; omega
      have HS := Lib.hid hs
      clear hx hs
      go_wp2_with fail
      go_round
      case rel => exact ⟨k+1, by omega, by go_num, by rw [HS.out]; rfl⟩
      case measure => simp [intOf]; omega
    · obtain rfl : k = l.length := by omega
      go_wp2_with fail
      go_ret
      exact ⟨by first | rfl | (rw [List.take_of_length_le (by omega)]; rfl), rfl⟩
 · have hx : (l.length : Int) - 8 < 0 := by omega
   clear hm1
   go_enter Tryz.func35, Tryz.ntmps35
   go_wp2_with fail
   go_loop [3, 4] (fun v i => ∃ k : Nat, k ≤ l.length ∧ i = .int .i64 k ∧ v = .int .u64 (beN (l.take k))) (fun _ i => l.length - (intOf i).toNat)
   case atStart => exact ⟨0, by omega, rfl, rfl⟩
   case round =>
    obtain ⟨k, hk, rfl, rfl⟩ := hrel
    by_cases hlt : k < l.length
    · have hb : beN (l.take k) ≤ 72057594037927935 := beN_le (by simp; omega)
      have hs := beN_take_succ l k hlt
      obtain ⟨x, hx⟩ : ∃ x, x = beN (l.take k) := ⟨_, rfl⟩
      obtain ⟨c, hc⟩ : ∃ c, l[k] = c := ⟨_, rfl⟩
      have hu := c.toNat_lt
      rw [← hx] at hb hs
      rw [hc] at hs
      rw [← hx]
      have q1 : IntKind.u64.wrap ((x : Int) * 256) = x * 256 := by rw [IntKind.wrap_u64]; omega
      have q2 : IntKind.u64.wrap ((x : Int) * 256 + c.toNat) = x * 256 + c.toNat := by rw [IntKind.wrap_u64]; omega
      have q3 : IntKind.u64.wrap (c.toNat : Int) = c.toNat := by rw [IntKind.wrap_u64]; omega
      have HS := Lib.hid hs
      clear hx hs
      go_wp2_with fail
      go_round
      case rel => exact ⟨k+1, by omega, by go_num, by rw [HS.out]; rfl⟩
      case measure => simp [intOf]; omega
    · obtain rfl : k = l.length := by omega
      go_wp2_with fail
      go_ret
      exact ⟨by first | rfl | (rw [List.take_of_length_le (by omega)]; rfl), rfl⟩
end Go.Proofs.YtoakccknimoogaaGreat
namespace Go.Esc
open Go Go.RowKit
/-- Each edge points back. -/
def edgesBack (ops : Array Oper) : Bool := (List.range ops.size).all fun i => ((ops[i]?).map fun o => o.after.all fun e => !Region.binds .any e || decide (e.on < i)).getD true
/-- No two operations write one slot. -/
def dstsApart (ops : Array Oper) : Bool := (List.range ops.size).all fun i => (List.range ops.size).all fun j => i == j || (match (ops[i]?).bind (·.dst), (ops[j]?).bind (·.dst) with | some a, some b => a != b | _, _ => true)
/-- Is the slot written by an operation? -/
def isDst (ops : Array Oper) (t : Nat) : Bool := ops.any fun o => o.dst == some t
def slotOf (a : Act) (d : Option Tmp) : Value := match d with | some d => a.tmps.getD d undef | none => undef
section
variable {P : Program} {ops : Array Oper} {Q : Exit → Act → World → Prop}
theorem wpAny_inv (md : Region.Mode) (Inv : Array Bool → Act → World → Prop)
 (hstep : ∀ listed a w, Inv listed a w → ∀ i ∈ Region.ready md ops listed, wpOp P ops Q i (fun a' w' => Inv (listed.setIfInBounds i true) a' w') a w)
 (hend : ∀ listed a w, Inv listed a w → Region.ready md ops listed = [] → Q .normal a w)
 (hcount : ∀ listed a w, Inv listed a w → listed.size = ops.size) :
 ∀ (fuel : Nat) (listed : Array Bool) (a : Act) (w : World), Inv listed a w → (listed.toList.count false ≤ fuel) → wpAny P md ops Q fuel listed a w := by
 intro fuel
 induction fuel with
 | zero =>
   intro listed a w h hc
   have hr : Region.ready md ops listed = [] := by
    apply List.eq_nil_iff_forall_not_mem.2
    intro i hi
    simp only [Region.ready, List.mem_filter, List.mem_range, Bool.and_eq_true, Bool.not_eq_true'] at hi
    obtain ⟨h1, h2, _⟩ := hi
    have hs := hcount _ _ _ h
    have : listed.toList.count false > 0 := by
     apply List.count_pos_iff.2
     have hlt : i < listed.size := by omega
     simp [Array.getD_eq_getD_getElem?, Array.getElem?_eq_getElem hlt] at h2
     rw [← h2]; simp
    omega
   exact ⟨hr, hend _ _ _ h hr⟩
 | succ fuel ih =>
   intro listed a w h hc
   refine ⟨hend _ _ _ h, fun i hi => ?_⟩
   refine wpOp_mono ?_ (hstep _ _ _ h i hi)
   intro a' w' h'
   refine ih _ _ _ h' ?_
   simp only [Region.ready, List.mem_filter, List.mem_range, Bool.and_eq_true, Bool.not_eq_true'] at hi
   obtain ⟨h1, h2, _⟩ := hi
   have hs := hcount _ _ _ h
   have hlt : i < listed.size := by omega
   have hf : listed[i] = false := by
    simpa [Array.getD_eq_getD_getElem?, Array.getElem?_eq_getElem hlt] using h2
   have hset : (listed.setIfInBounds i true).toList = listed.toList.set i true := by simp
   rw [hset, List.count_set (by simpa using hlt)]
   have hf' : listed.toList[i]'(by simpa using hlt) = false := by simpa using hf
   rw [hf']
   have : listed.toList.count false > 0 := by
    apply List.count_pos_iff.2
    rw [← hf]; exact Array.getElem_mem_toList ..
   simp only [beq_self_eq_true, if_true, show (true == false) = false from rfl, Bool.false_eq_true, if_false]
   omega
theorem ready_nil (h : edgesBack ops = true) (listed : Array Bool) (hs : listed.size = ops.size) (hr : Region.ready .any ops listed = []) : ∀ j, j < ops.size → listed[j]? = some true := by
 intro j
 induction j using Nat.strongRecOn with
 | _ j ih =>
   intro hj
   have hlt : j < listed.size := by omega
   have hn : j ∉ Region.ready .any ops listed := by rw [hr]; simp
   rw [Array.getElem?_eq_getElem hlt]
   cases hl : listed[j] with
   | true => rfl
   | false =>
     exfalso
     apply hn
     simp only [Region.ready, List.mem_filter, List.mem_range, Bool.and_eq_true, Bool.not_eq_true']
     refine ⟨hj, by simp [Array.getD_eq_getD_getElem?, Array.getElem?_eq_getElem hlt, hl], ?_⟩
     simp only [edgesBack, List.all_eq_true, List.mem_range] at h
     have := h j hj
     rw [Array.getElem?_eq_getElem hj] at this ⊢
     simp only [Option.map_some, Option.getD_some, Array.all_eq_true] at this ⊢
     intro k hk
     have := this k hk
     simp only [Bool.or_eq_true, Bool.not_eq_true', decide_eq_true_eq] at this ⊢
     rcases this with hb | hb
     · exact .inl hb
     · right
       have h3 := ih _ hb (by omega)
       simp [Array.getD_eq_getD_getElem?, h3]
/-- A REGION THAT DRAWS ITS ORDER, each of whose operations comes to a value (and leaves a world) of which a fact holds that stands whatever the others do. -/
theorem region_stable (id : Nat) (R : World → World → Prop) (Φ : Nat → Value → World → Prop) {a : Act} {w : World}
 (hm : P.follows .mixedOrders = true) (hE : edgesBack ops = true) (hD : dstsApart ops = true)
 (hRr : ∀ w, R w w) (hRt : ∀ {a b c}, R a b → R b c → R a c)
 (hΦ : ∀ i v w w', Φ i v w → R w w' → Φ i v w')
 (hop : ∀ (i : Nat) (o : Oper), ops[i]? = some o → ∀ (a' : Act) (w' : World), a'.defers = a.defers → (∀ t : Nat, isDst ops t = false → a'.tmps.getD t undef = a.tmps.getD t undef) →
   R { w with drawn := w.drawn + 1 } w' → (∀ e ∈ o.after.toList, Region.binds .any e = true → Φ e.on (slotOf a' ((ops[e.on]?).bind (·.dst))) w') →
   (∀ d, o.dst = some d → d < a'.tmps.size) →
   wpOp P ops Q i (fun a'' w'' => ∃ v, a'' = a'.put o.dst v ∧ Φ i (if o.dst.isSome then v else undef) w'' ∧ R w' w'') a' w')
 (hsize : ∀ (i : Nat) (o : Oper) (d : Nat), ops[i]? = some o → o.dst = some d → d < a.tmps.size)
 (hend : ∀ (a' : Act) (w' : World), a'.defers = a.defers → a'.tmps.size = a.tmps.size → (∀ t : Nat, isDst ops t = false → a'.tmps.getD t undef = a.tmps.getD t undef) →
   R { w with drawn := w.drawn + 1 } w' → (∀ (j : Nat) (oj : Oper), ops[j]? = some oj → Φ j (slotOf a' oj.dst) w') → Q .normal a' w') :
 (Code.region id ops true).wp P Q a w := by
 refine wp_region_any hm ?_
 let Inv : Array Bool → Act → World → Prop := fun listed a' w' => listed.size = ops.size ∧ a'.defers = a.defers ∧ a'.tmps.size = a.tmps.size ∧
  (∀ t : Nat, isDst ops t = false → a'.tmps.getD t undef = a.tmps.getD t undef) ∧ R { w with drawn := w.drawn + 1 } w' ∧
  ∀ (j : Nat) (oj : Oper), ops[j]? = some oj → listed[j]? = some true → Φ j (slotOf a' oj.dst) w'
 refine wpAny_inv .any Inv ?_ ?_ (fun _ _ _ h => h.1) ops.size _ a _ ?_ ?_
 · intro listed a' w' ⟨h1, h2, h3, h4, h5, h6⟩ i hi
   simp only [Region.ready, List.mem_filter, List.mem_range, Bool.and_eq_true, Bool.not_eq_true'] at hi
   obtain ⟨hi1, hi2, hi3⟩ := hi
   have ho : ops[i]? = some ops[i] := Array.getElem?_eq_getElem hi1
   refine wpOp_mono ?_ (hop i ops[i] ho a' w' h2 h4 h5 ?_ ?_)
   · rintro a'' w'' ⟨v, rfl, hv, hR⟩
     have hlt : i < listed.size := by omega
     refine ⟨by simpa using h1, ?_, ?_, ?_, hRt h5 hR, ?_⟩
     · cases ops[i].dst <;> exact h2
     · cases ops[i].dst <;> simp [Act.put, h3]
     · intro t ht
       rw [← h4 t ht]
       have hne0 : ops[i].dst ≠ some t := by
        intro e
        have : isDst ops t = true := by
         simp only [isDst, Array.any_eq_true]
         exact ⟨i, hi1, by rw [e]; simp⟩
        rw [ht] at this; cases this
       cases hd : ops[i].dst with
       | none => rfl
       | some d =>
         have hne : d ≠ t := fun e => hne0 (by rw [hd, e])
         simp [Act.put, Array.getElem?_setIfInBounds_ne hne]
     · intro j oj hj hl
       by_cases hij : i = j
       · subst hij
         rw [ho] at hj; cases hj
         cases hd : ops[i].dst with
         | none => rw [hd] at hv; exact hv
         | some d =>
           rw [hd] at hv
           have hdl : d < a'.tmps.size := by rw [h3]; exact hsize i _ d ho hd
           simpa [slotOf, Act.put, Array.getElem?_setIfInBounds_self, hdl] using hv
       · have hl' : listed[j]? = some true := by rw [Array.getElem?_setIfInBounds_ne hij] at hl; exact hl
         have hold := hΦ j _ _ _ (h6 j oj hj hl') hR
         have hsame : slotOf (a'.put ops[i].dst v) oj.dst = slotOf a' oj.dst := by
          cases hd : ops[i].dst with
          | none => rfl
          | some d =>
            cases hd2 : oj.dst with
            | none => rfl
            | some d2 =>
              have hne : d ≠ d2 := by
               simp only [dstsApart, List.all_eq_true, List.mem_range] at hD
               have hj1 : j < ops.size := (Array.getElem?_eq_some_iff.1 hj).1
               have := hD i hi1 j hj1
               rw [ho, hj] at this
               simp [hd, hd2, hij] at this
               exact this
              simp [slotOf, Act.put, Array.getElem?_setIfInBounds_ne hne]
         rw [hsame]; exact hold
   · intro e he hb
     rw [ho] at hi3
     simp only [Option.map_some, Option.getD_some, Array.all_eq_true_iff_forall_mem] at hi3
     have h7 := hi3 e (by simpa using he)
     simp only [hb, Bool.not_true, Bool.false_or] at h7
     have h8 : listed[e.on]? = some true := by
      cases hq : listed[e.on]? with
      | none => simp [Array.getD_eq_getD_getElem?, hq] at h7
      | some x => simp [Array.getD_eq_getD_getElem?, hq] at h7; rw [h7]
     have hlt : e.on < ops.size := by
      have := (Array.getElem?_eq_some_iff.1 h8).1; omega
     have h9 := h6 e.on ops[e.on] (Array.getElem?_eq_getElem hlt) h8
     rw [Array.getElem?_eq_getElem hlt]
     exact h9
   · intro d hd
     rw [h3]; exact hsize i _ d ho hd
 · intro listed a' w' ⟨h1, h2, h3, h4, h5, h6⟩ hr
   have hall := ready_nil hE listed h1 hr
   exact hend a' w' h2 h3 h4 h5 fun j oj hj => h6 j oj hj (hall j (Array.getElem?_eq_some_iff.1 hj).1)
 · exact ⟨by simp, rfl, rfl, fun _ _ => rfl, hRr _, fun j oj hj hl => by
    have hj1 : j < ops.size := (Array.getElem?_eq_some_iff.1 hj).1
    rw [Array.getElem?_replicate, if_pos hj1] at hl; cases hl⟩
 · rw [Array.toList_replicate, List.count_replicate_self]; exact Nat.le_refl _
end
end Go.Esc
namespace Go.Esc
open Go Go.RowKit
def AllOps (F : Nat → Oper → Prop) : Nat → List Oper → Prop
 | _, [] => True
 | n, o :: r => F n o ∧ AllOps F (n+1) r
theorem AllOps.get {F : Nat → Oper → Prop} : ∀ {l : List Oper} {n : Nat}, AllOps F n l → ∀ i o, l[i]? = some o → F (n + i) o
 | o' :: r, n, h, 0, o, hi => by simp at hi; subst hi; exact h.1
 | o' :: r, n, h, i+1, o, hi => by
   have := AllOps.get h.2 i o (by simpa using hi)
   rwa [Nat.add_assoc, Nat.add_comm 1 i] at this
 | [], _, _, i, o, hi => by simp at hi
/-- The value is v. -/
def Is (v : Value) : Value → World → Prop := fun u _ => u = v
def Any : Value → World → Prop := fun _ _ => True
/-- What holds of a value goes on to hold. -/
class Stable (Φ : Value → World → Prop) : Prop where
 keep : ∀ v w w', Φ v w → Pu w w' → Φ v w'
class AllStable (l : List (Value → World → Prop)) : Prop where
 keep : ∀ Φ ∈ l, ∀ v w w', Φ v w → Pu w w' → Φ v w'
instance (v : Value) : Stable (Is v) := ⟨fun _ _ _ h _ => h⟩
instance : Stable Any := ⟨fun _ _ _ _ _ => trivial⟩
instance : AllStable [] := ⟨fun _ h => by cases h⟩
instance (Φ : Value → World → Prop) (l : List (Value → World → Prop)) [h : Stable Φ] [k : AllStable l] : AllStable (Φ :: l) := ⟨fun Ψ hm => by
 rcases List.mem_cons.1 hm with rfl | hm
 · exact h.keep
 · exact k.keep Ψ hm⟩
/-- A slice of a new row which begins with xs. -/
def IsRow (e : TypeId) (n : Nat) (xs : List Value) : Value → World → Prop := fun v w => ∃ g cap, v = .slice (some ⟨g, 0, none⟩) n cap ∧ Row w g e xs
instance (e : TypeId) (n : Nat) (xs : List Value) : Stable (IsRow e n xs) := ⟨fun _ _ _ h hp => by obtain ⟨g, cap, hv, hr⟩ := h; exact ⟨g, cap, hv, hr.pu hp⟩⟩
section
variable {P : Program} {ops : Array Oper} {Q : Exit → Act → World → Prop}
/-- What is asked of an operation. -/
def OpOk (P : Program) (ops : Array Oper) (Q : Exit → Act → World → Prop) (Φs : List (Value → World → Prop)) (a : Act) (w : World) (i : Nat) (o : Oper) : Prop :=
 ∀ (a' : Act) (w' : World), (∀ t : Nat, isDst ops t = false → a'.tmps[t]?.getD undef = a.tmps[t]?.getD undef) → Pu w w' →
   (∀ e ∈ o.after.toList, Region.binds .any e = true → Φs.getD e.on Any (match (ops[e.on]?).bind (·.dst) with | some d => a'.tmps[d]?.getD undef | none => undef) w') →
   wpOp P ops Q i (fun a'' w'' => ∃ v, a'' = a'.put o.dst v ∧ Φs.getD i Any (if o.dst.isSome then v else undef) w'' ∧ Pu w' w'') a' w'
theorem slot_eq (a : Act) (d : Option Tmp) : slotOf a d = (match d with | some d => a.tmps[d]?.getD undef | none => undef) := by
 cases d <;> simp [slotOf, Array.getD_eq_getD_getElem?]
theorem Pu.refl (w : World) : Pu w w := Below.refl _ _
theorem region_pu (id : Nat) (Φs : List (Value → World → Prop)) {a : Act} {w : World}
 (hm : P.follows .mixedOrders = true) (hE : edgesBack ops = true) (hD : dstsApart ops = true)
 [hΦ : AllStable Φs]
 (hsize : (ops.toList.all fun o => match o.dst with | some d => decide (d < a.tmps.size) | none => true) = true)
 (hop : AllOps (OpOk P ops Q Φs a w) 0 ops.toList)
 (hend : ∀ (a' : Act) (w' : World), a'.defers = a.defers → a'.tmps.size = a.tmps.size → (∀ t : Nat, isDst ops t = false → a'.tmps[t]?.getD undef = a.tmps[t]?.getD undef) → Pu w w' →
   AllOps (fun j oj => Φs.getD j Any (match oj.dst with | some d => a'.tmps[d]?.getD undef | none => undef) w') 0 ops.toList → Q .normal a' w') :
 (Code.region id ops true).wp P Q a w := by
 have hw0 : ∀ w', Pu { w with drawn := w.drawn + 1 } w' ↔ Pu w w' := fun w' => ⟨fun h => ⟨h.os, h.tape, h.output, h.size, h.block⟩, fun h => ⟨h.os, h.tape, h.output, h.size, h.block⟩⟩
 refine region_stable id Pu (fun i => Φs.getD i Any) hm hE hD Pu.refl (fun h k => Pu.trans h k) ?_ ?_ ?_ ?_
 · intro i v w w' h hp
   by_cases hi : i < Φs.length
   · have e : Φs.getD i Any = Φs[i] := by simp [List.getD, List.getElem?_eq_getElem hi]
     rw [e] at h ⊢
     exact hΦ.keep _ (List.getElem_mem hi) _ _ _ h hp
   · have e : Φs.getD i Any = Any := by simp [List.getD, List.getElem?_eq_none (by omega : Φs.length ≤ i)]
     rw [e]; trivial
 · intro i o ho a' w' _ hs hp he _
   have h1 := hop.get i o (by simpa using ho)
   rw [Nat.zero_add] at h1
   refine h1 a' w' (fun t ht => ?_) ((hw0 w').1 hp) (fun e hm hb => ?_)
   · have := hs t ht; simpa [Array.getD_eq_getD_getElem?] using this
   · have := he e hm hb; rw [slot_eq] at this; exact this
 · intro i o d ho hd
   have := List.all_eq_true.1 hsize o (by rw [Array.mem_toList_iff]; exact Array.mem_of_getElem? ho)
   rw [hd] at this; simpa using this
 · intro a' w' h1 h2 hs hp hall
   refine hend a' w' h1 h2 (fun t ht => ?_) ((hw0 w').1 hp) ?_
   · have := hs t ht; simpa [Array.getD_eq_getD_getElem?] using this
   · have key : ∀ (l : List Oper) (n : Nat), (∀ i o, l[i]? = some o → Φs.getD (n + i) Any (match o.dst with | some d => a'.tmps[d]?.getD undef | none => undef) w') → AllOps (fun j oj => Φs.getD j Any (match oj.dst with | some d => a'.tmps[d]?.getD undef | none => undef) w') n l := by
      intro l
      induction l with
      | nil => intro _ _; trivial
      | cons o l ih =>
        intro n h
        refine ⟨by simpa using h 0 o rfl, ih (n+1) fun i o' hi => ?_⟩
        have := h (i+1) o' (by simpa using hi)
        rwa [Nat.add_assoc, Nat.add_comm 1 i]
     refine key _ 0 fun i o hi => ?_
     rw [Nat.zero_add]
     have := hall i o (by simpa using hi)
     rw [slot_eq] at this; exact this
theorem op_val {Φ : Value → World → Prop} {i : Nat} {o : Oper} {a' : Act} {w' w'' : World} {v : Value} (ho : ops[i]? = some o) (hw : Region.wanted o (yielded ops a'.tmps) = true)
 (hrun : (execOp a'.eval o).run P w' = .ok (.value v) w'') (hφ : Φ (if o.dst.isSome then v else undef) w'') (hp : Pu w' w'') :
 wpOp P ops Q i (fun a'' w'' => ∃ v, a'' = a'.put o.dst v ∧ Φ (if o.dst.isSome then v else undef) w'' ∧ Pu w' w'') a' w' := by
 unfold wpOp
 simp only [ho, hw, if_true]
 refine .inl ?_
 unfold Oper.wp
 rw [hrun]
 exact ⟨v, rfl, hφ, hp⟩
/-- As op_val, for an operation without a guard that only reads. -/
theorem op_v {Φ : Value → World → Prop} {i : Nat} {o : Oper} {a' : Act} {w' : World} {v : Value} (ho : ops[i]? = some o := by exact rfl) (hg : o.guard = none := by exact rfl)
 (hrun : (execOp a'.eval o).run P w' = .ok (.value v) w' := by first | (go_simp; done) | (go_simp; rfl) | (simp [execOp, Act.eval, go_sem, *]; done) | (simp [execOp, Act.eval, go_sem, *]; rfl)) (hφ : Φ (if o.dst.isSome then v else undef) w' := by exact rfl) :
 wpOp P ops Q i (fun a'' w'' => ∃ v, a'' = a'.put o.dst v ∧ Φ (if o.dst.isSome then v else undef) w'' ∧ Pu w' w'') a' w' :=
 op_val ho (by simp [Region.wanted, hg]) hrun hφ (Pu.refl _)
theorem op_skip {Φ : Value → World → Prop} {i : Nat} {o : Oper} {a' : Act} {w' : World} (ho : ops[i]? = some o) (hw : Region.wanted o (yielded ops a'.tmps) = false)
 (hφ : Φ undef w') :
 wpOp P ops Q i (fun a'' w'' => ∃ v, a'' = a'.put o.dst v ∧ Φ (if o.dst.isSome then v else undef) w'' ∧ Pu w' w'') a' w' := by
 unfold wpOp
 simp only [ho, hw, Bool.false_eq_true, if_false]
 exact ⟨undef, rfl, by split <;> exact hφ, Pu.refl _⟩
theorem op_call {Φ : Value → World → Prop} {i : Nat} {o : Oper} {a' : Act} {w' : World} {f : FuncId} {args : Array Value} (ho : ops[i]? = some o) (hw : Region.wanted o (yielded ops a'.tmps) = true)
 (hrun : (execOp a'.eval o).run P w' = .ok (.enter f args) w') (hc : Calls P f args w' fun e w'' => ∃ v, e = .returned v ∧ Φ (if o.dst.isSome then v else undef) w'' ∧ Pu w' w'') :
 wpOp P ops Q i (fun a'' w'' => ∃ v, a'' = a'.put o.dst v ∧ Φ (if o.dst.isSome then v else undef) w'' ∧ Pu w' w'') a' w' := by
 unfold wpOp
 simp only [ho, hw, if_true]
 refine .inl ?_
 unfold Oper.wp
 rw [hrun, Oper.upon_enter]
 refine hc.mono ?_
 rintro e w'' ⟨v, rfl, hφ, hp⟩
 exact ⟨v, rfl, hφ, hp⟩
theorem op_callV {Φ : Value → World → Prop} {i : Nat} {o : Oper} {a' : Act} {w' : World} {f : FuncId} {args : Array Value} {v : Value} (hc : Calls P f args w' fun e w'' => e = .returned v ∧ w'' = w') (ho : ops[i]? = some o) (hw : Region.wanted o (yielded ops a'.tmps) = true)
 (hrun : (execOp a'.eval o).run P w' = .ok (.enter f args) w') (hφ : Φ (if o.dst.isSome then v else undef) w') :
 wpOp P ops Q i (fun a'' w'' => ∃ v, a'' = a'.put o.dst v ∧ Φ (if o.dst.isSome then v else undef) w'' ∧ Pu w' w'') a' w' :=
 op_call ho hw hrun (hc.mono (by rintro e w'' ⟨rfl, rfl⟩; exact ⟨_, rfl, hφ, Pu.refl _⟩))
theorem op_callP {Φ : Value → World → Prop} {i : Nat} {o : Oper} {a' : Act} {w' : World} {f : FuncId} {args : Array Value} {v : Value} (hc : Calls P f args w' fun e w'' => e = .returned v ∧ Pu w' w'') (ho : ops[i]? = some o) (hw : Region.wanted o (yielded ops a'.tmps) = true)
 (hrun : (execOp a'.eval o).run P w' = .ok (.enter f args) w') (hφ : ∀ w'', Φ (if o.dst.isSome then v else undef) w'') :
 wpOp P ops Q i (fun a'' w'' => ∃ v, a'' = a'.put o.dst v ∧ Φ (if o.dst.isSome then v else undef) w'' ∧ Pu w' w'') a' w' :=
 op_call ho hw hrun (hc.mono (by rintro e w'' ⟨rfl, hp⟩; exact ⟨_, rfl, hφ _, hp⟩))
theorem wanted_none {o : Oper} {y : Nat → Option Bool} (h : o.guard = none) : Region.wanted o y = true := by simp [Region.wanted, h]
theorem wanted_some {o : Oper} {tmps : Array Value} {g : Nat} {want b : Bool} {d : Tmp} (hg : o.guard = some (g, want)) (hd : (ops[g]?).bind (·.dst) = some d) (h : tmps[d]?.getD undef = .bool b) :
 Region.wanted o (yielded ops tmps) = (b == want) := by
 have hy : yielded ops tmps g = some b := by
  unfold yielded
  rw [hd]
  cases ht : tmps[d]? with
  | none => rw [ht] at h; cases h
  | some v => rw [ht] at h; simp at h; subst h; simp [ht]
 simp [Region.wanted, hg, hy]
end
end Go.Esc
namespace Go.Esc
open Go Go.RowKit
/-- Two frames agree but at the slots ds. -/
def Agree (A B : Array Value) (ds : List Nat) : Prop := A.size = B.size ∧ ∀ t, ds.contains t = false → A[t]?.getD undef = B[t]?.getD undef
theorem agree_init {ops : Array Oper} {A B : Array Value} (ds : List Nat) (hsz : A.size = B.size) (h : ∀ t : Nat, isDst ops t = false → A[t]?.getD undef = B[t]?.getD undef)
 (hk : (ops.toList.all fun o => match o.dst with | some d => ds.contains d | none => true) = true) : Agree A B ds := by
 refine ⟨hsz, fun t ht => h t ?_⟩
 cases hd : isDst ops t with
 | false => rfl
 | true =>
   simp only [isDst, Array.any_eq_true] at hd
   obtain ⟨i, hi, he⟩ := hd
   have := List.all_eq_true.1 hk ops[i] (by simp)
   have he' : ops[i].dst = some t := by simpa using he
   rw [he'] at this
   simp only at this
   rw [ht] at this; cases this
theorem agree_step {A B : Array Value} {d : Nat} {ds : List Nat} {v : Value} (h : Agree A B (d :: ds)) (hv : A[d]?.getD undef = v) : Agree A (B.setIfInBounds d v) ds := by
 refine ⟨by simpa using h.1, fun t ht => ?_⟩
 by_cases e : d = t
 · subst e
   by_cases hl : d < B.size
   · rw [Array.getElem?_setIfInBounds_self, if_pos hl, hv]; rfl
   · rw [Array.getElem?_setIfInBounds_self, if_neg hl, Array.getElem?_eq_none (by have := h.1; omega)]
 · rw [Array.getElem?_setIfInBounds_ne e]
   refine h.2 t ?_
   simp only [List.contains_cons, Bool.or_eq_false_iff]
   exact ⟨by simpa using Ne.symm e, ht⟩
theorem agree_done {A B : Array Value} (h : Agree A B []) : A = B := by
 apply Array.ext h.1
 intro i h1 h2
 have := h.2 i rfl
 simpa [Array.getElem?_eq_getElem h1, Array.getElem?_eq_getElem h2] using this
theorem act_of {a : Act} {A : Array Value} {D : List Deferred} (h1 : a.tmps = A) (h2 : a.defers = D) : a = { tmps := A, defers := D } := by cases a; simp at h1 h2; simp [h1, h2]
end Go.Esc
namespace Go.Esc
open Go Go.RowKit
/-- Each operation but the last is awaited by a later one. -/
def usedAll (ops : Array Oper) : Bool := (List.range (ops.size - 1)).all fun i => (List.range ops.size).any fun j => decide (i < j) && ((ops[j]?).map fun o => o.after.any fun e => Region.binds .any e && e.on == i).getD false
section
variable {P : Program} {ops : Array Oper} {Q : Exit → Act → World → Prop}
def Closed (ops : Array Oper) (listed : Array Bool) : Prop := ∀ (j : Nat) (oj : Oper), ops[j]? = some oj → listed[j]? = some true → ∀ e ∈ oj.after.toList, Region.binds .any e = true → listed[e.on]? = some true
theorem all_listed (hU : usedAll ops = true) (listed : Array Bool) (n : Nat) (hn : ops.size = n + 1) (hc : Closed ops listed) (ol : Oper) (hl : ops[n]? = some ol) (hr : ∀ e ∈ ol.after.toList, Region.binds .any e = true → listed[e.on]? = some true) :
 ∀ d i, i < n → n - i = d → listed[i]? = some true := by
 intro d
 induction d using Nat.strongRecOn with
 | _ d ih =>
   intro i hi hd
   simp only [usedAll, List.all_eq_true, List.mem_range, List.any_eq_true, Bool.and_eq_true, decide_eq_true_eq] at hU
   obtain ⟨j, hj, hij, hu⟩ := hU i (by omega)
   rw [Array.getElem?_eq_getElem hj] at hu
   simp only [Option.map_some, Option.getD_some, Array.any_eq_true, Bool.and_eq_true, beq_iff_eq] at hu
   obtain ⟨k, hk, hb, he⟩ := hu
   by_cases hjn : j = n
   · subst hjn
     have : ops[j] = ol := by rw [Array.getElem?_eq_getElem hj] at hl; simpa using hl
     have h2 := hr (ops[j].after[k]) (by rw [← this]; simp) hb
     rw [he] at h2; exact h2
   · have h1 := ih (n - j) (by omega) j (by omega) rfl
     have h2 := hc j ops[j] (Array.getElem?_eq_getElem hj) h1 (ops[j].after[k]) (by simp) hb
     rw [he] at h2; exact h2
theorem AllOps.mk' {F : Nat → Oper → Prop} : ∀ (l : List Oper) (n : Nat), (∀ i o, l[i]? = some o → F (n + i) o) → AllOps F n l := by
 intro l
 induction l with
 | nil => intro _ _; trivial
 | cons o l ih =>
   intro n h
   refine ⟨by simpa using h 0 o rfl, ih (n+1) fun i o' hi => ?_⟩
   have := h (i+1) o' (by simpa using hi)
   rwa [Nat.add_assoc, Nat.add_comm 1 i]
theorem region_last (id : Nat) (Φs : List (Value → World → Prop)) {a : Act} {w : World} (n : Nat) (ol : Oper) (hn : ops.size = n + 1) (hlast : ops[n]? = some ol)
 (hm : P.follows .mixedOrders = true) (hE : edgesBack ops = true) (hD : dstsApart ops = true) (hU : usedAll ops = true)
 [hΦ : AllStable Φs]
 (hsize : (ops.toList.all fun o => match o.dst with | some d => decide (d < a.tmps.size) | none => true) = true)
 (hop : AllOps (OpOk P ops Q Φs a w) 0 (ops.toList.take n))
 (hend : ∀ (a' : Act) (w' : World), a'.defers = a.defers → a'.tmps.size = a.tmps.size → (∀ t : Nat, isDst ops t = false → a'.tmps[t]?.getD undef = a.tmps[t]?.getD undef) → Pu w w' →
   AllOps (fun j oj => Φs.getD j Any (match oj.dst with | some d => a'.tmps[d]?.getD undef | none => undef) w') 0 (ops.toList.take n) → wpOp P ops Q n (fun a'' w'' => Q .normal a'' w'') a' w') :
 (Code.region id ops true).wp P Q a w := by
 refine wp_region_any hm ?_
 have hkeep : ∀ (i : Nat) (v : Value) (w w' : World), Φs.getD i Any v w → Pu w w' → Φs.getD i Any v w' := by
  intro i v w w' h hp
  by_cases hi : i < Φs.length
  · have e : Φs.getD i Any = Φs[i] := by simp [List.getD, List.getElem?_eq_getElem hi]
    rw [e] at h ⊢
    exact hΦ.keep _ (List.getElem_mem hi) _ _ _ h hp
  · have e : Φs.getD i Any = Any := by simp [List.getD, List.getElem?_eq_none (by omega : Φs.length ≤ i)]
    rw [e]; trivial
 let slot : Act → Option Tmp → Value := fun a' d => match d with | some d => a'.tmps[d]?.getD undef | none => undef
 let Inv : Array Bool → Act → World → Prop := fun listed a' w' => listed.size = ops.size ∧
  ((listed[n]? = some false ∧ Closed ops listed ∧ a'.defers = a.defers ∧ a'.tmps.size = a.tmps.size ∧
    (∀ t : Nat, isDst ops t = false → a'.tmps[t]?.getD undef = a.tmps[t]?.getD undef) ∧ Pu w w' ∧
    ∀ (j : Nat) (oj : Oper), ops[j]? = some oj → listed[j]? = some true → Φs.getD j Any (slot a' oj.dst) w') ∨
   ((∀ i, i < ops.size → listed[i]? = some true) ∧ Q .normal a' w'))
 refine wpAny_inv .any Inv ?_ ?_ (fun _ _ _ h => h.1) ops.size _ a _ ?_ ?_
 · intro listed a' w' ⟨h1, h⟩ i hi
   simp only [Region.ready, List.mem_filter, List.mem_range, Bool.and_eq_true, Bool.not_eq_true'] at hi
   obtain ⟨hi1, hi2, hi3⟩ := hi
   have ho : ops[i]? = some ops[i] := Array.getElem?_eq_getElem hi1
   have hlt : i < listed.size := by omega
   have hif : listed[i]? = some false := by
    simp [Array.getD_eq_getD_getElem?, Array.getElem?_eq_getElem hlt] at hi2
    rw [Array.getElem?_eq_getElem hlt, hi2]
   have hi4 : ∀ e ∈ ops[i].after.toList, Region.binds .any e = true → listed[e.on]? = some true := by
    intro e he hb
    rw [ho] at hi3
    simp only [Option.map_some, Option.getD_some, Array.all_eq_true_iff_forall_mem] at hi3
    have h7 := hi3 e (by simpa using he)
    simp only [hb, Bool.not_true, Bool.false_or] at h7
    cases hq : listed[e.on]? with
    | none => simp [Array.getD_eq_getD_getElem?, hq] at h7
    | some x => simp [Array.getD_eq_getD_getElem?, hq] at h7; rw [h7]
   rcases h with ⟨hnf, hcl, h2, h3, h4, h5, h6⟩ | ⟨hall, hQ⟩
   · by_cases hin : i = n
     · subst hin
       have hall := all_listed hU listed i hn hcl ops[i] ho hi4
       refine wpOp_mono ?_ (hend a' w' h2 h3 h4 h5 (AllOps.mk' _ _ fun j o hj => ?_))
       · intro a'' w'' hQ
         refine ⟨by simp [h1], .inr ⟨fun j hj => ?_, hQ⟩⟩
         by_cases hji : i = j
         · subst hji; rw [Array.getElem?_setIfInBounds_self, if_pos hlt]
         · rw [Array.getElem?_setIfInBounds_ne hji]; exact hall _ j (by omega) rfl
       · rw [Nat.zero_add]
         rw [List.getElem?_take] at hj
         split at hj
         · next hji =>
           have := h6 j o (by simpa using hj) (hall _ j hji rfl)
           exact this
         · cases hj
     · have hk := hop.get i ops[i] (by rw [List.getElem?_take, if_pos (by omega)]; simp)
       rw [Nat.zero_add] at hk
       have hk2 := hk a' w' h4 h5 (fun e hm hb => by
        have h8 := hi4 e hm hb
        have hlt2 : e.on < ops.size := by
         have := (Array.getElem?_eq_some_iff.1 h8).1; omega
        have h9 := h6 e.on ops[e.on] (Array.getElem?_eq_getElem hlt2) h8
        rw [Array.getElem?_eq_getElem hlt2]
        exact h9)
       refine wpOp_mono ?_ hk2
       rintro a'' w'' ⟨v, rfl, hv, hR⟩
       refine ⟨by simp [h1], .inl ⟨?_, ?_, ?_, ?_, ?_, h5.trans hR, ?_⟩⟩
       · rw [Array.getElem?_setIfInBounds_ne hin]; exact hnf
       · intro j oj hj hl e he hb
         by_cases hij : i = j
         · subst hij
           rw [ho] at hj; cases hj
           have h8 := hi4 e he hb
           by_cases hie : i = e.on
           · rw [← hie] at h8; rw [hif] at h8; cases h8
           · rw [Array.getElem?_setIfInBounds_ne hie]; exact h8
         · have hl' : listed[j]? = some true := by rw [Array.getElem?_setIfInBounds_ne hij] at hl; exact hl
           have h8 := hcl j oj hj hl' e he hb
           by_cases hie : i = e.on
           · rw [← hie] at h8; rw [hif] at h8; cases h8
           · rw [Array.getElem?_setIfInBounds_ne hie]; exact h8
       · cases ops[i].dst <;> exact h2
       · cases ops[i].dst <;> simp [Act.put, h3]
       · intro t ht
         rw [← h4 t ht]
         have hne0 : ops[i].dst ≠ some t := by
          intro e
          have : isDst ops t = true := by
           simp only [isDst, Array.any_eq_true]
           exact ⟨i, hi1, by rw [e]; simp⟩
          rw [ht] at this; cases this
         cases hd : ops[i].dst with
         | none => rfl
         | some d =>
           have hne : d ≠ t := fun e => hne0 (by rw [hd, e])
           simp [Act.put, Array.getElem?_setIfInBounds_ne hne]
       · intro j oj hj hl
         by_cases hij : i = j
         · subst hij
           rw [ho] at hj; cases hj
           cases hd : ops[i].dst with
           | none => rw [hd] at hv; exact hv
           | some d =>
             rw [hd] at hv
             have hdl : d < a'.tmps.size := by
              rw [h3]
              have := List.all_eq_true.1 hsize ops[i] (by simp)
              rw [hd] at this; simpa using this
             simpa [slot, Act.put, Array.getElem?_setIfInBounds_self, hdl] using hv
         · have hl' : listed[j]? = some true := by rw [Array.getElem?_setIfInBounds_ne hij] at hl; exact hl
           have hold := hkeep j _ _ _ (h6 j oj hj hl') hR
           have hsame : slot (a'.put ops[i].dst v) oj.dst = slot a' oj.dst := by
            cases hd : ops[i].dst with
            | none => rfl
            | some d =>
              cases hd2 : oj.dst with
              | none => rfl
              | some d2 =>
                have hne : d ≠ d2 := by
                 simp only [dstsApart, List.all_eq_true, List.mem_range] at hD
                 have hj1 : j < ops.size := (Array.getElem?_eq_some_iff.1 hj).1
                 have := hD i hi1 j hj1
                 rw [ho, hj] at this
                 simp [hd, hd2, hij] at this
                 exact this
                simp [slot, Act.put, Array.getElem?_setIfInBounds_ne hne]
           rw [hsame]; exact hold
   · have := hall i hi1
     rw [hif] at this; cases this
 · intro listed a' w' ⟨h1, h⟩ hr
   have hall := ready_nil hE listed h1 hr
   rcases h with ⟨hnf, _⟩ | ⟨_, hQ⟩
   · have := hall n (by omega)
     rw [hnf] at this; cases this
   · exact hQ
 · refine ⟨by simp, .inl ⟨?_, ?_, rfl, rfl, fun _ _ => rfl, ⟨rfl, rfl, rfl, Nat.le_refl _, fun _ _ => rfl⟩, ?_⟩⟩
   · rw [Array.getElem?_replicate, if_pos (by omega)]
   · intro j oj hj hl
     have hj1 : j < ops.size := (Array.getElem?_eq_some_iff.1 hj).1
     rw [Array.getElem?_replicate, if_pos hj1] at hl; cases hl
   · intro j oj hj hl
     have hj1 : j < ops.size := (Array.getElem?_eq_some_iff.1 hj).1
     rw [Array.getElem?_replicate, if_pos hj1] at hl; cases hl
 · rw [Array.toList_replicate, List.count_replicate_self]; exact Nat.le_refl _
theorem op_run {K : Act → World → Prop} {i : Nat} {o : Oper} {a' : Act} {w' w'' : World} {v : Value} (ho : ops[i]? = some o) (hw : Region.wanted o (yielded ops a'.tmps) = true)
 (hrun : (execOp a'.eval o).run P w' = .ok (.value v) w'') (hK : K (a'.put o.dst v) w'') : wpOp P ops Q i K a' w' := by
 unfold wpOp
 simp only [ho, hw, if_true]
 refine .inl ?_
 unfold Oper.wp
 rw [hrun]
 exact hK
theorem op_done {K : Act → World → Prop} {i : Nat} {o : Oper} {a' : Act} {w' w'' : World} (ho : ops[i]? = some o) (hw : Region.wanted o (yielded ops a'.tmps) = true)
 (hrun : (execOp a'.eval o).run P w' = .ok .skip w'') (hK : K (a'.put o.dst undef) w'') : wpOp P ops Q i K a' w' := by
 unfold wpOp
 simp only [ho, hw, if_true]
 refine .inl ?_
 unfold Oper.wp
 rw [hrun]
 exact hK
end
end Go.Esc
set_option linter.unusedSimpArgs false
set_option linter.unusedVariables false
namespace Go.Proofs.YtoakccknimoogaaGreat
open Go.RowKit Go.Esc
theorem hexD_ne : ∀ i k : Nat, i < 16 → k < 16 → i ≠ k → ((((hexD.getD i 0).toNat : Int) == ((hexD.getD k 0).toNat : Int)) = false) := by
 have : ∀ i k : Fin 16, i ≠ k → ((((hexD.getD i.1 0).toNat : Int) == ((hexD.getD k.1 0).toNat : Int)) = false) := by decide +kernel
 intro i k hi hk hne
 exact this ⟨i, hi⟩ ⟨k, hk⟩ (by simpa using hne)
theorem hexD_get (i : Nat) (h : i < hexD.length) : hexD[i] = hexD.getD i 0 := by simp [h]
set_option maxHeartbeats 800000 in
theorem digit (k : Nat) (hk : k < 16) (w : World) :
 Calls Tryz.prog 199 #[.int .u8 ((hexD.getD k 0).toNat : Int)] w fun e w' => e = .returned (.int .i64 (k : Int)) ∧ w' = w := by
 obtain ⟨c, hc⟩ : ∃ c, c = (hexD.getD k 0).toNat := ⟨_, rfl⟩
 rw [← hc]
 have HC := Lib.hid hc
 clear hc
 obtain ⟨hd, hhd⟩ : ∃ l, l = hexD := ⟨_, rfl⟩
 have hlen : hd.length = 16 := by rw [hhd]; rfl
 have hk0 : (ByteArray.mk #[48, 49, 50, 51, 52, 53, 54, 55, 56, 57, 97, 98, 99, 100, 101, 102]) = bs hd := by rw [hhd]; rfl
 have HHD := Lib.hid hhd
 clear hhd
 go_enter Tryz.func199, Tryz.ntmps199
 go_wp2_with fail
 go_loop [4] (fun i => ∃ n : Nat, n ≤ k ∧ i = .int .i64 n) (fun i => 16 - (intOf i).toNat)
 case atStart => exact ⟨0, by omega, rfl⟩
 case round =>
  obtain ⟨n, hn, rfl⟩ := hrel
  have h16 : (n : Int) < 16 := by omega
  have h0 : (0 : Int) ≤ n := by omega
  have hl : n < hd.length := by omega
  by_cases hlt : n < k
  · obtain ⟨d, hd2⟩ : ∃ d, hd[n] = d := ⟨_, rfl⟩
    have hne : (((d.toNat : Int)) == (c : Int)) = false := by
     rw [← hd2, HC.out]
     have := hexD_ne n k (by omega) hk (by omega)
     rw [← hexD_get n (by rw [← HHD.out]; exact hl)] at this
     have e : hd[n] = hexD[n]'(by rw [← HHD.out]; exact hl) := by simp only [HHD.out]
     rw [e]; exact this
    go_wp2_with fail
    go_round
    case rel => exact ⟨n + 1, by omega, by go_num⟩
    case measure => simp [intOf]; omega
  · obtain rfl : n = k := by omega
    obtain ⟨d, hd2⟩ : ∃ d, hd[n] = d := ⟨_, rfl⟩
    have heq : (((d.toNat : Int)) == (c : Int)) = true := by
     rw [← hd2, HC.out]
     have e : hd[n] = hexD[n]'(by rw [← HHD.out]; exact hl) := by simp only [HHD.out]
     rw [e, hexD_get]; simp
    go_wp2_with fail
    go_ret
    exact ⟨rfl, rfl⟩
end Go.Proofs.YtoakccknimoogaaGreat
set_option linter.unusedSimpArgs false
set_option linter.unusedVariables false
namespace Go.Esc
open Go Go.RowKit
theorem wpList_append_mine {P : Program} {ops : Array Oper} {rest : List Oper} {o : Oper} {a : Act} {w : World} {Q : Exit → Act → World → Prop} (hgd : o.guard = none) (s x : Operand) (t : TypeId)
 (ho : o.op = .call { callee := .builtin .append, args := #[s, x], argTypes := #[t, t] })
 (base : Nat) (e : TypeId) (i : TypeInfo) (z : Value) (size bytes : Nat) (ht : P.underlying t = some (.slice e)) (hi : P.info? e = some i) (hz : i.zero = some z)
 (hsize : i.size = size) (hby : i.bytes = bytes) (hzs : z.cells.size = size) (hsz : 0 < size)
 (v : Value) (n : Nat) (xs : List Value) (hs : a.eval s = v) (hown : w.ownsRow base e size v n xs)
 (ad : Addr) (m c : Nat) (news : List Value) (hx : a.eval x = .slice (some ad) m c) (hl : news.length = m * size) (hnews : ∀ j u, news[j]? = some u → w.cell? (ad.add j) = some u) (h1 : ∀ u ∈ news, u.oneCell' = true)
 (h63 : n + m ≤ maxLen) (hbytes : (n + m) * bytes ≤ 140737488355328) (hbase : base ≤ w.heap.size)
 (h : ∀ v' w', w'.ownsRow base e size v' (n + m) (xs ++ news) → w.grownBy w' v.ownBlock → wpList P ops Q rest (a.put o.dst v') w') : wpList P ops Q (o :: rest) a w :=
 wpList_plain hgd fun K hK => wp_append_own w s x t ho base e i z size bytes ht hi hz hsize hby hzs hsz v n xs hs hown ad m c news hx hl hnews h1 h63 hbytes hbase fun v' w' h2 h3 _ => hK _ _ (h v' w' h2 h3)
theorem own_pu {B : Nat} {e : TypeId} {k : Nat} {v : Value} {n : Nat} {xs : List Value} {w w' : World} (h : w.ownsRow B e k v n xs) (hb : Pu w w') : w'.ownsRow B e k v n xs :=
 h.kept (row := none) ⟨hb.os, hb.tape, hb.output, hb.size, fun j hj _ => hb.block j hj⟩ (by cases hv : v.ownBlock <;> simp)
theorem hex_length (l : Bs) : (hex l).length = 2 * l.length := by
 induction l with
 | nil => rfl
 | cons c l ih => simp only [hex, List.flatMap_cons, List.length_append, List.length_cons, List.length_nil] at *; omega
theorem hex_get (l : Bs) (j : Nat) (h : j < l.length) : (hex l).getD (2 * j) 0 = hexD.getD (l[j].toNat / 16) 0 ∧ (hex l).getD (2 * j + 1) 0 = hexD.getD (l[j].toNat % 16) 0 := by
 induction l generalizing j with
 | nil => simp at h
 | cons c l ih =>
   have e : hex (c :: l) = [hexD.getD (c.toNat / 16) 0, hexD.getD (c.toNat % 16) 0] ++ hex l := rfl
   cases j with
   | zero => simp [e]
   | succ j =>
     have := ih j (by simpa using h)
     rw [e, show 2 * (j + 1) = 2 * j + 2 by omega]
     simpa [List.getD_eq_getElem?_getD] using this
theorem or_digits (a b : Nat) (ha : a < 16) (hb : b < 16) : Go.bits .or .i64 ((a : Int) * 16) (b : Int) = ((16 * a + b : Nat) : Int) := by
 have : ∀ a b : Fin 16, Go.bits .or .i64 (((a.1 : Nat) : Int) * 16) ((b.1 : Nat) : Int) = ((16 * a.1 + b.1 : Nat) : Int) := by decide +kernel
 exact this ⟨a, ha⟩ ⟨b, hb⟩
end Go.Esc
namespace Go.Proofs.YtoakccknimoogaaGreat
open Go.RowKit Go.Esc
set_option maxRecDepth 100000 in
set_option maxHeartbeats 1600000 in
theorem unhex (l : Bs) (h0 : 0 < l.length) (hm : l.length ≤ 1000) (w : World) :
 Calls Tryz.prog 197 #[S (hex l)] w fun e w' => e = .returned (.tuple #[S l, .bool true]) ∧ Pu w w' := by
 obtain ⟨i0, hi, hz0, hz1, hz2⟩ := info_parts infoB
 obtain ⟨h, hh⟩ : ∃ h, h = hex l := ⟨_, rfl⟩
 have hlen : h.length = 2 * l.length := by rw [hh, hex_length]
 rw [← hh]
 have HH := Lib.hid hh
 have hrem : ((h.length : Int)).tmod 2 = 0 := by rw [hlen, Int.tmod_eq_emod_of_nonneg (by omega)]; omega
 have hquo : ((h.length : Int)).tdiv 2 = l.length := by rw [hlen, Int.tdiv_eq_ediv_of_nonneg (by omega)]; omega
 clear hh
 go_enter Tryz.func197, Tryz.ntmps197
 go_wp2_with (at_make; refine wpList_make_own _ rfl _ _ 51 rfl w.heap.size 5 i0 (.int .u8 0) 1 Tryz.underlying51 hi hz0 hz1 _ _ _ l.length rfl rfl rfl (by rw [hz2]; omega) (by unfold maxLen; omega) (Nat.le_refl _) ?_; intro w1 hown hgrow)
 have hbel0 : Below w.heap.size w w1 := (Below.refl _ _).grown hgrow (Nat.le_refl _) (by simp)
 have hcall : ∀ args w, (callFunc 199 args).run Tryz.prog w = .ok (.enter 199 args) w := fun args w => run_callFunc_body Tryz.func199 (by kernel_rfl) (by kernel_rfl) args w
 clear hrem hquo
 go_loopw [4, 5] (fun v i wr => ∃ j : Nat, j ≤ l.length ∧ i = .int .i64 (2 * (j : Int)) ∧ wr.ownsRow w.heap.size 5 1 v j (cells (l.take j)) ∧ Below w.heap.size w wr) (fun _ i _ => 2 * l.length - (intOf i).toNat)
 case atStart => exact ⟨0, by omega, rfl, hown, hbel0⟩
 case round =>
  clear hown hgrow hbel0
  obtain ⟨j, hj, rfl, hown, hbel⟩ := hrel
  obtain ⟨va, vc, rfl, hlt'⟩ := own_slice hown
  by_cases hlt : j < l.length
  · obtain ⟨c, hc⟩ : ∃ c, c = l[j] := ⟨_, rfl⟩
    obtain ⟨q1, q2⟩ := hex_get l j hlt
    rw [← HH.out, ← hc] at q1 q2
    obtain ⟨k1, hk1⟩ : ∃ k, k = c.toNat / 16 := ⟨_, rfl⟩
    obtain ⟨k2, hk2⟩ : ∃ k, k = c.toNat % 16 := ⟨_, rfl⟩
    have hcl := c.toNat_lt
    have hk1l : k1 < 16 := by omega
    have hk2l : k2 < 16 := by omega
    have hD1 := fun w => digit k1 hk1l w
    have hD2 := fun w => digit k2 hk2l w
    rw [← hk1] at q1
    rw [← hk2] at q2
    rw [← q1] at hD1
    rw [← q2] at hD2
    have b1 : 2 * j < h.length := by omega
    have b2 : 2 * j + 1 < h.length := by omega
    have g1 : h[2 * j] = h.getD (2 * j) 0 := by rw [List.getD_eq_getElem?_getD, List.getElem?_eq_getElem]; rfl
    have g2 : h[2 * j + 1] = h.getD (2 * j + 1) 0 := by rw [List.getD_eq_getElem?_getD, List.getElem?_eq_getElem]; rfl
    obtain ⟨d1, hd1⟩ : ∃ d, d = h.getD (2 * j) 0 := ⟨_, rfl⟩
    obtain ⟨d2, hd2⟩ : ∃ d, d = h.getD (2 * j + 1) 0 := ⟨_, rfl⟩
    rw [← hd1] at g1 hD1
    rw [← hd2] at g2 hD2
    have ho : Go.bits .or .i64 ((k1 : Int) * 16) (k2 : Int) = (c.toNat : Int) := by rw [or_digits k1 k2 hk1l hk2l]; congr 1; omega
    have hw : IntKind.u8.wrap (c.toNat : Int) = c.toNat := by rw [IntKind.wrap_u8]; omega
    have n1 : decide ((k1 : Int) < 0) = false := by simp
    have n2 : decide ((k2 : Int) < 0) = false := by simp
    have p0 : (0 : Int) ≤ 2 * j := by omega
    have p1 : (0 : Int) ≤ 2 * j + 1 := by omega
    have p2 : (2 : Int) * j < h.length := by omega
    have p3 : (2 : Int) * j + 1 < h.length := by omega
    have p4 : ((2 : Int) * j).toNat = 2 * j := by omega
    have p5 : ((2 : Int) * j + 1).toNat = 2 * j + 1 := by omega
    have p6 : IntKind.i64.wrap ((2 : Int) * j + 1) = 2 * j + 1 := by rw [IntKind.wrap_i64]; omega
    have p7 : IntKind.i64.wrap ((2 : Int) * j + 2) = 2 * j + 2 := by rw [IntKind.wrap_i64]; omega
    have p8 : IntKind.i64.wrap ((k1 : Int) * 16) = k1 * 16 := by rw [IntKind.wrap_i64]; omega
    have HD1 := Lib.hid hD1
    have HD2 := Lib.hid hD2
    have HC := Lib.hid hc
    have HLEN := Lib.hid hlen
    clear hD1 hD2 hc hk1 hk2 q1 q2 hd1 hd2 hlen
    go_wp2_with fail
    apply region_pu (Φs := (Is _ :: Is _ :: Is _ :: Is _ :: Is _ :: Is _ :: Is _ :: Is _ :: Is _ :: Is _ :: Is _ :: [])) (hm := by kernel_rfl) (hE := by kernel_rfl) (hD := by kernel_rfl) (hsize := by kernel_rfl)
    case hop =>
     refine ⟨?_, ?_, ?_, ?_, ?_, ?_, ?_, ?_, ?_, ?_, ?_, trivial⟩
     · intro a' w' hs hp he
       have e0 := hs 0 (by kernel_rfl)
       try simp [Is, Region.binds] at he
       exact op_v
     · intro a' w' hs hp he
       have e5 := hs 5 (by kernel_rfl)
       try simp [Is, Region.binds] at he
       exact op_v
     · intro a' w' hs hp he
       try simp [Is, Region.binds] at he
       exact op_v
     · intro a' w' hs hp he
       try simp [Is, Region.binds] at he
       exact op_callV (HD1.out _) rfl (wanted_none rfl) (by first | (go_simp; done) | (go_simp; rfl)) rfl
     · intro a' w' hs hp he
       have e0 := hs 0 (by kernel_rfl)
       try simp [Is, Region.binds] at he
       exact op_v
     · intro a' w' hs hp he
       have e5 := hs 5 (by kernel_rfl)
       try simp [Is, Region.binds] at he
       exact op_v
     · intro a' w' hs hp he
       try simp [Is, Region.binds] at he
       exact op_v
     · intro a' w' hs hp he
       try simp [Is, Region.binds] at he
       exact op_v
     · intro a' w' hs hp he
       try simp [Is, Region.binds] at he
       exact op_callV (HD2.out _) rfl (wanted_none rfl) (by first | (go_simp; done) | (go_simp; rfl)) rfl
     · intro a' w' hs hp he
       try simp [Is, Region.binds] at he
       exact op_v
     · intro a' w' hs hp he
       try simp [Is, Region.binds] at he
       exact op_v
    case hend =>
     intro a' w' hdef hsz hs hp hall
     obtain ⟨r0, r1, r2, r3, r4, r5, r6, r7, r8, r9, r10, -⟩ := hall
     have hA := agree_done (agree_step (agree_step (agree_step (agree_step (agree_step (agree_step (agree_step (agree_step (agree_step (agree_step (agree_step (agree_init [22, 23, 24, 25, 26, 27, 28, 29, 30, 6, 7] hsz hs (by kernel_rfl)) r0) r1) r2) r3) r4) r5) r6) r7) r8) r9) r10)
     have ha := act_of hA hdef
     rw [ha]
     clear ha hA hs hsz hdef r0 r1 r2 r3 r4 r5 r6 r7 r8 r9 r10 
     (try simp only [List.setIfInBounds_toArray])
     (try dsimp only [List.set_cons_zero, List.set_cons_succ])
     (try simp only [Exit.then])
     replace hown := own_pu hown hp
     have hbw := hbel.size
     have hpw := hp.size
     have hbel2 := hbel.trans (Below.mono hp hbel.size)
     go_wp2_with (refine wpList_append_mine rfl (.tmp 37) (.tmp 43) 51 rfl w.heap.size 5 i0 (.int .u8 0) 1 1 Tryz.underlying51 hi hz0 hz1 hz2 rfl (by decide) (.slice va j vc) j (cells (l.take j)) (by rfl) (hown.alloc _) ⟨w'.heap.size, 0, none⟩ 1 1 [.int .u8 (c.toNat : Int)] (by rfl) rfl (by intro j u hj; match j, hj with | 0, hj => simp at hj; subst hj; simp [Addr.add]) (by simp [Value.oneCell']) (by unfold maxLen; omega) (by omega) (by simp; omega) ?_; intro v2 w2 hown2 hgrow2)
     go_roundw
     case rel =>
      refine ⟨j + 1, by omega, by rw [show (2 : Int) * ((j + 1 : Nat) : Int) = 2 * j + 2 by omega], ?_, (hbel2.alloc (by omega) _).grown hgrow2 (by simp; omega) (fun k hk => (hlt' k hk).1)⟩
      rw [List.take_succ_eq_append_getElem hlt, ← HC.out]
      simpa [cells, B] using hown2
     case measure => simp [intOf]; omega
  · obtain rfl : j = l.length := by omega
    obtain ⟨g, cap, hv, -, -⟩ := own_form hown h0
    simp only [Value.slice.injEq] at hv
    obtain ⟨rfl, -, rfl⟩ := hv
    rw [List.take_length] at hown
    have hcv := own_conv (P := Tryz.prog) 51 9 hown Tryz.underlying51 Tryz.underlying5 Tryz.underlying9
    have hnl : decide (2 * (l.length : Int) < h.length) = false := by simp; omega
    have HLEN := Lib.hid hlen
    clear hlen
    go_wp2_with fail
    go_ret2
    exact ⟨rfl, hbel⟩
end Go.Proofs.YtoakccknimoogaaGreat
