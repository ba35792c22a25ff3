/- The closed facts of a large cut's head, step by step. -/
import Derived.Test.YtlbdbmnkjljohaaGreatRows
import Derived.ProofKit
import Derived.OpenShut
namespace Go.Proofs.YtlbdbmnkjljohaaGreat
def cutL : List Char := [99,117,116].map Char.ofNat
theorem cut_gc : (cutL == "gc".toList) = false := by kernel_rfl
theorem cut_spec : (cutL == "spec".toList) = false := by kernel_rfl
theorem cut_cut : (cutL == "cut".toList) = true := by kernel_rfl
theorem cut_carried : (cutL == "carried".toList) = false := by kernel_rfl
theorem some_cut : (some cutL == some "cut".toList) = true := by kernel_rfl
theorem some_carried : (some cutL == some "carried".toList) = false := by kernel_rfl
theorem strip_cut (r : List (List Char)) : stripLifts liftWords (cutL :: r) = ([], cutL :: r) := by
  have h : ∀ l : List String, (∀ s ∈ l, (cutL == s.toList) = false) → stripLifts l (cutL :: r) = ([], cutL :: r) := by
    intro l
    induction l with
    | nil => intro _; rfl
    | cons s l ih =>
      intro h
      have h0 := h s (by simp)
      rw [stripLifts]
      rw [if_neg (by rw [h0]; decide)]
      exact ih fun t ht => h t (by simp [ht])
  refine h _ ?_
  have hk : liftWords.all (fun s => !(cutL == s.toList)) = true := by kernel_rfl
  intro s hs
  have := List.all_eq_true.1 hk s hs
  simpa using this
def mkOf (hl : List String) (l : List (List Char)) : Option Make := match l with
  | c :: rest => if c == "gc".toList || c == "spec".toList then some .whole else if c == "cut".toList || (c == "finals".toList && rest.head? == some "cut".toList) then some .cut else if c == "carried".toList then some .carried else if hl.isEmpty then none else some (.lifted hl)
  | [] => none
theorem make_eq (P : Program) : P.make = mkOf P.headLifts (behindMainWord (wordsSigns P.initOrder.toList)) := rfl
theorem mkOf_cut (hl : List String) (r : List (List Char)) : mkOf hl (cutL :: r) = some .cut := by
  simp only [mkOf, cut_gc, cut_spec, cut_cut]; rfl
def enterOf (ll br : Bool) (df : List String → Bool) (l : List (List Char)) : Bool := match l with
  | c :: rest =>
    ((c == "gc".toList || c == "spec".toList) && (rest.isEmpty || rest.head? == some "stop".toList)) ||
    (c == "carried".toList && rest.take 2 == ["gc".toList, "cut".toList] && !ll && !br) ||
    ((stripLifts liftWords (c :: rest)).2.head? == some "cut".toList &&
      ((stripLifts liftWords (c :: rest)).1.contains "finals" || !ll) && ((stripLifts liftWords (c :: rest)).1.contains "reflectrows" || !br) &&
      ((stripLifts liftWords (c :: rest)).1.contains "reflectrows" || !(stripLifts liftWords (c :: rest)).1.contains "leanrows") &&
      df (stripLifts liftWords (c :: rest)).1)
  | [] => false
theorem enter_eq (P : Program) : P.mayEnter = enterOf P.laysLater P.bearsReflect P.doorFits (behindMainWord (wordsSigns P.initOrder.toList)) := rfl
theorem enterOf_cut (df : List String → Bool) (r : List (List Char)) (h : df [] = true) : enterOf false false df (cutL :: r) = true := by
  simp only [enterOf, cut_gc, cut_spec, cut_carried, strip_cut, List.head?_cons, some_cut, h]; rfl
def finalOf (hl : List String) (l : List (List Char)) : Bool := (l.head? == some "carried".toList && l.take 3 != ["carried".toList, "gc".toList, "cut".toList]) || hl.contains "finals"
theorem final_eq (P : Program) : P.liftsFinal = finalOf P.headLifts (behindMainWord (wordsSigns P.initOrder.toList)) := rfl
def liftsOf (l : List (List Char)) : List String := if (stripLifts liftWords l).2.head? == some "cut".toList then (stripLifts liftWords l).1 else []
theorem lifts_eq (P : Program) : P.headLifts = liftsOf (behindMainWord (wordsSigns P.initOrder.toList)) := rfl
theorem liftsOf_cut (r : List (List Char)) : liftsOf (cutL :: r) = [] := by
  simp only [liftsOf, strip_cut, List.head?_cons, some_cut]; rfl
theorem finalOf_cut (r : List (List Char)) : finalOf [] (cutL :: r) = false := by
  simp only [finalOf, List.head?_cons, some_carried]; rfl

def headL : List Char := [104, 97, 114, 110, 101, 115, 115, 32, 54, 99, 51, 48, 102, 50, 98, 48, 48, 55, 101, 97, 51, 54, 50, 54, 97, 54, 50, 51, 102, 99, 98, 102, 54, 53, 99, 97, 49, 53, 49, 51, 50, 51, 99, 53, 48, 55, 101, 100, 97, 101, 57, 54, 51, 99, 99, 51, 98, 57, 54, 53, 51, 49, 101, 52, 100, 57, 101, 50, 99, 51, 56, 97, 32, 99, 117, 116, 32, 97, 116, 32, 101, 115, 99, 117, 116, 99, 104, 101, 111, 110, 47, 101, 115, 99, 117, 116, 99, 104, 101, 111, 110, 108, 97, 119, 49, 54, 46, 71, 117, 101, 115, 116, 80, 108, 97, 121, 115, 32, 101, 115, 99, 117, 116, 99, 104, 101, 111, 110, 47, 101, 115, 99, 117, 116, 99, 104, 101, 111, 110, 108, 97, 119, 49, 54, 46, 83, 104, 97, 107, 101, 65, 103, 114, 101, 101, 115, 32, 101, 115, 99, 117, 116, 99, 104, 101, 111, 110, 47, 101, 115, 99, 117, 116, 99, 104, 101, 111, 110, 108, 97, 119, 49, 54, 46, 83, 104, 97, 107, 101, 76, 111, 99, 107, 101, 100, 32, 101, 115, 99, 117, 116, 99, 104, 101, 111, 110, 47, 101, 115, 99, 117, 116, 99, 104, 101, 111, 110, 108, 97, 119, 49, 54, 46, 83, 104, 97, 107, 101, 83, 116, 114, 97, 110, 103, 101, 114, 32, 101, 115, 99, 117, 116, 99, 104, 101, 111, 110, 47, 101, 115, 99, 117, 116, 99, 104, 101, 111, 110, 108, 97, 119, 49, 54, 46, 83, 104, 97, 107, 101, 79, 114, 100, 101, 114, 32, 101, 115, 99, 117, 116, 99, 104, 101, 111, 110, 47, 101, 115, 99, 117, 116, 99, 104, 101, 111, 110, 108, 97, 119, 49, 54, 46, 83, 104, 97, 107, 101, 75, 101, 121, 115, 32, 101, 115, 99, 117, 116, 99, 104, 101, 111, 110, 47, 101, 115, 99, 117, 116, 99, 104, 101, 111, 110, 108, 97, 119, 49, 54, 46, 72, 111, 115, 116, 80, 108, 97, 121, 115, 32, 101, 115, 99, 117, 116, 99, 104, 101, 111, 110, 47, 101, 115, 99, 117, 116, 99, 104, 101, 111, 110, 108, 97, 119, 49, 54, 46, 83, 104, 97, 107, 101, 84, 117, 114, 110, 101, 100, 32, 101, 115, 99, 117, 116, 99, 104, 101, 111, 110, 47, 101, 115, 99, 117, 116, 99, 104, 101, 111, 110, 108, 97, 119, 49, 54, 46, 83, 104, 97, 107, 101, 70, 97, 105, 108, 115].map Char.ofNat
def headW : List (List Char) := [[104, 97, 114, 110, 101, 115, 115].map Char.ofNat, [54, 99, 51, 48, 102, 50, 98, 48, 48, 55, 101, 97, 51, 54, 50, 54, 97, 54, 50, 51, 102, 99, 98, 102, 54, 53, 99, 97, 49, 53, 49, 51, 50, 51, 99, 53, 48, 55, 101, 100, 97, 101, 57, 54, 51, 99, 99, 51, 98, 57, 54, 53, 51, 49, 101, 52, 100, 57, 101, 50, 99, 51, 56, 97].map Char.ofNat, [99, 117, 116].map Char.ofNat, [97, 116].map Char.ofNat, [101, 115, 99, 117, 116, 99, 104, 101, 111, 110, 47, 101, 115, 99, 117, 116, 99, 104, 101, 111, 110, 108, 97, 119, 49, 54, 46, 71, 117, 101, 115, 116, 80, 108, 97, 121, 115].map Char.ofNat, [101, 115, 99, 117, 116, 99, 104, 101, 111, 110, 47, 101, 115, 99, 117, 116, 99, 104, 101, 111, 110, 108, 97, 119, 49, 54, 46, 83, 104, 97, 107, 101, 65, 103, 114, 101, 101, 115].map Char.ofNat, [101, 115, 99, 117, 116, 99, 104, 101, 111, 110, 47, 101, 115, 99, 117, 116, 99, 104, 101, 111, 110, 108, 97, 119, 49, 54, 46, 83, 104, 97, 107, 101, 76, 111, 99, 107, 101, 100].map Char.ofNat, [101, 115, 99, 117, 116, 99, 104, 101, 111, 110, 47, 101, 115, 99, 117, 116, 99, 104, 101, 111, 110, 108, 97, 119, 49, 54, 46, 83, 104, 97, 107, 101, 83, 116, 114, 97, 110, 103, 101, 114].map Char.ofNat, [101, 115, 99, 117, 116, 99, 104, 101, 111, 110, 47, 101, 115, 99, 117, 116, 99, 104, 101, 111, 110, 108, 97, 119, 49, 54, 46, 83, 104, 97, 107, 101, 79, 114, 100, 101, 114].map Char.ofNat, [101, 115, 99, 117, 116, 99, 104, 101, 111, 110, 47, 101, 115, 99, 117, 116, 99, 104, 101, 111, 110, 108, 97, 119, 49, 54, 46, 83, 104, 97, 107, 101, 75, 101, 121, 115].map Char.ofNat, [101, 115, 99, 117, 116, 99, 104, 101, 111, 110, 47, 101, 115, 99, 117, 116, 99, 104, 101, 111, 110, 108, 97, 119, 49, 54, 46, 72, 111, 115, 116, 80, 108, 97, 121, 115].map Char.ofNat, [101, 115, 99, 117, 116, 99, 104, 101, 111, 110, 47, 101, 115, 99, 117, 116, 99, 104, 101, 111, 110, 108, 97, 119, 49, 54, 46, 83, 104, 97, 107, 101, 84, 117, 114, 110, 101, 100].map Char.ofNat, [101, 115, 99, 117, 116, 99, 104, 101, 111, 110, 47, 101, 115, 99, 117, 116, 99, 104, 101, 111, 110, 108, 97, 119, 49, 54, 46, 83, 104, 97, 107, 101, 70, 97, 105, 108, 115].map Char.ofNat]
set_option maxRecDepth 100000 in
set_option maxHeartbeats 4000000 in
theorem head0 : Tryz.prog.initOrder = String.ofList headL := by kernel_rfl
theorem head1 : Tryz.prog.initOrder.toList = headL := by rw [head0, String.toList_ofList]
set_option maxRecDepth 100000 in
set_option maxHeartbeats 4000000 in
theorem head2 : wordsSigns headL = headW := by kernel_rfl
set_option maxRecDepth 100000 in
set_option maxHeartbeats 4000000 in
theorem head3 : behindMainWord headW = cutL :: headW.drop 3 := by kernel_rfl
theorem headIs : behindMainWord (wordsSigns Tryz.prog.initOrder.toList) = cutL :: headW.drop 3 := by rw [head1, head2, head3]
set_option maxHeartbeats 4000000 in
theorem laysLater0 : Tryz.prog.laysLater = false := by kernel_rfl
set_option maxHeartbeats 4000000 in
theorem bearsReflect0 : Tryz.prog.bearsReflect = false := by kernel_rfl
set_option maxHeartbeats 4000000 in
theorem doorRows0 : Tryz.prog.doorRows = [] := by kernel_rfl
theorem doorFits0 : Tryz.prog.doorFits [] = true := by unfold Program.doorFits; rw [doorRows0]; kernel_rfl
theorem mayEnter0 : Tryz.prog.mayEnter = true := by rw [enter_eq, headIs, laysLater0, bearsReflect0, enterOf_cut _ _ doorFits0]
theorem make0 : Tryz.prog.make = some Make.cut := by rw [make_eq, headIs, mkOf_cut]
theorem liftsFinal0 : Tryz.prog.liftsFinal = false := by rw [final_eq, lifts_eq, headIs, liftsOf_cut, finalOf_cut]
set_option maxHeartbeats 4000000 in
theorem laidOut0 : laidOutB Tryz.prog = true := by kernel_rfl
set_option maxHeartbeats 4000000 in
theorem mapsRowed0 : mapsRowed Tryz.prog = true := by kernel_rfl
set_option maxHeartbeats 4000000 in
theorem stopsHeard0 : Tryz.prog.stopsHeard = true := by kernel_rfl
set_option maxHeartbeats 4000000 in
theorem plainKeys0 : (true == Tryz.prog.plainKeys) = true := by kernel_rfl
theorem own0 : ownKnob Tryz.prog.godebug = none := by kernel_rfl
end Go.Proofs.YtlbdbmnkjljohaaGreat
