/- The closed facts of a large cut's head, step by step. -/
import Derived.Test.YtoakccknimoogaaGreatRows
import Derived.ProofKit
import Derived.OpenShut
namespace Go.Proofs.YtoakccknimoogaaGreat
def cutL : List Char := [99,117,116].map Char.ofNat
theorem cut_gc : (cutL == "gc".toList) = false := by kernel_rfl
theorem cut_spec : (cutL == "spec".toList) = false := by kernel_rfl
theorem cut_cut : (cutL == "cut".toList) = true := by kernel_rfl
theorem cut_carried : (cutL == "carried".toList) = false := by kernel_rfl
theorem some_cut : (some cutL == some "cut".toList) = true := by kernel_rfl
theorem some_carried : (some cutL == some "carried".toList) = false := by kernel_rfl
theorem strip_cut (r : List (List Char)) : stripLifts liftWords (cutL :: r) = ([], cutL :: r) := by
  have h : ∀ l : List String, (∀ s ∈ l, (cutL == s.toList) = false) → stripLifts l (cutL :: r) = ([], cutL :: r) := by
    intro l
    induction l with
    | nil => intro _; rfl
    | cons s l ih =>
      intro h
      have h0 := h s (by simp)
      rw [stripLifts]
      rw [if_neg (by rw [h0]; decide)]
      exact ih fun t ht => h t (by simp [ht])
  refine h _ ?_
  have hk : liftWords.all (fun s => !(cutL == s.toList)) = true := by kernel_rfl
  intro s hs
  have := List.all_eq_true.1 hk s hs
  simpa using this
def mkOf (hl : List String) (l : List (List Char)) : Option Make := match l with
  | c :: rest => if c == "gc".toList || c == "spec".toList then some .whole else if c == "cut".toList || (c == "finals".toList && rest.head? == some "cut".toList) then some .cut else if c == "carried".toList then some .carried else if hl.isEmpty then none else some (.lifted hl)
  | [] => none
theorem make_eq (P : Program) : P.make = mkOf P.headLifts (behindMainWord (wordsSigns P.initOrder.toList)) := rfl
theorem mkOf_cut (hl : List String) (r : List (List Char)) : mkOf hl (cutL :: r) = some .cut := by
  simp only [mkOf, cut_gc, cut_spec, cut_cut]; rfl
def enterOf (ll br : Bool) (df : List String → Bool) (l : List (List Char)) : Bool := match l with
  | c :: rest =>
    ((c == "gc".toList || c == "spec".toList) && (rest.isEmpty || rest.head? == some "stop".toList)) ||
    (c == "carried".toList && rest.take 2 == ["gc".toList, "cut".toList] && !ll && !br) ||
    ((stripLifts liftWords (c :: rest)).2.head? == some "cut".toList &&
      ((stripLifts liftWords (c :: rest)).1.contains "finals" || !ll) && ((stripLifts liftWords (c :: rest)).1.contains "reflectrows" || !br) &&
      ((stripLifts liftWords (c :: rest)).1.contains "reflectrows" || !(stripLifts liftWords (c :: rest)).1.contains "leanrows") &&
      df (stripLifts liftWords (c :: rest)).1)
  | [] => false
theorem enter_eq (P : Program) : P.mayEnter = enterOf P.laysLater P.bearsReflect P.doorFits (behindMainWord (wordsSigns P.initOrder.toList)) := rfl
theorem enterOf_cut (df : List String → Bool) (r : List (List Char)) (h : df [] = true) : enterOf false false df (cutL :: r) = true := by
  simp only [enterOf, cut_gc, cut_spec, cut_carried, strip_cut, List.head?_cons, some_cut, h]; rfl
def finalOf (hl : List String) (l : List (List Char)) : Bool := (l.head? == some "carried".toList && l.take 3 != ["carried".toList, "gc".toList, "cut".toList]) || hl.contains "finals"
theorem final_eq (P : Program) : P.liftsFinal = finalOf P.headLifts (behindMainWord (wordsSigns P.initOrder.toList)) := rfl
def liftsOf (l : List (List Char)) : List String := if (stripLifts liftWords l).2.head? == some "cut".toList then (stripLifts liftWords l).1 else []
theorem lifts_eq (P : Program) : P.headLifts = liftsOf (behindMainWord (wordsSigns P.initOrder.toList)) := rfl
theorem liftsOf_cut (r : List (List Char)) : liftsOf (cutL :: r) = [] := by
  simp only [liftsOf, strip_cut, List.head?_cons, some_cut]; rfl
theorem finalOf_cut (r : List (List Char)) : finalOf [] (cutL :: r) = false := by
  simp only [finalOf, List.head?_cons, some_carried]; rfl

def headL : List Char := [104, 97, 114, 110, 101, 115, 115, 32, 100, 100, 98, 49, 53, 54, 98, 49, 56, 53, 55, 49, 49, 98, 51, 100, 51, 57, 51, 55, 98, 97, 98, 56, 99, 98, 53, 54, 102, 99, 98, 51, 50, 99, 99, 102, 49, 98, 99, 100, 48, 52, 99, 50, 54, 56, 102, 100, 99, 100, 57, 54, 53, 54, 53, 101, 98, 102, 98, 53, 56, 50, 57, 48, 32, 99, 117, 116, 32, 97, 116, 32, 101, 115, 99, 117, 116, 99, 104, 101, 111, 110, 47, 101, 115, 99, 117, 116, 99, 104, 101, 111, 110, 108, 97, 119, 49, 51, 46, 82, 101, 99, 111, 114, 100, 80, 108, 97, 121, 115, 32, 101, 115, 99, 117, 116, 99, 104, 101, 111, 110, 47, 101, 115, 99, 117, 116, 99, 104, 101, 111, 110, 108, 97, 119, 49, 51, 46, 82, 101, 99, 111, 114, 100, 67, 114, 111, 115, 115].map Char.ofNat
def headW : List (List Char) := [[104, 97, 114, 110, 101, 115, 115].map Char.ofNat, [100, 100, 98, 49, 53, 54, 98, 49, 56, 53, 55, 49, 49, 98, 51, 100, 51, 57, 51, 55, 98, 97, 98, 56, 99, 98, 53, 54, 102, 99, 98, 51, 50, 99, 99, 102, 49, 98, 99, 100, 48, 52, 99, 50, 54, 56, 102, 100, 99, 100, 57, 54, 53, 54, 53, 101, 98, 102, 98, 53, 56, 50, 57, 48].map Char.ofNat, [99, 117, 116].map Char.ofNat, [97, 116].map Char.ofNat, [101, 115, 99, 117, 116, 99, 104, 101, 111, 110, 47, 101, 115, 99, 117, 116, 99, 104, 101, 111, 110, 108, 97, 119, 49, 51, 46, 82, 101, 99, 111, 114, 100, 80, 108, 97, 121, 115].map Char.ofNat, [101, 115, 99, 117, 116, 99, 104, 101, 111, 110, 47, 101, 115, 99, 117, 116, 99, 104, 101, 111, 110, 108, 97, 119, 49, 51, 46, 82, 101, 99, 111, 114, 100, 67, 114, 111, 115, 115].map Char.ofNat]
set_option maxRecDepth 100000 in
set_option maxHeartbeats 4000000 in
theorem head0 : Tryz.prog.initOrder = String.ofList headL := by kernel_rfl
theorem head1 : Tryz.prog.initOrder.toList = headL := by rw [head0, String.toList_ofList]
set_option maxRecDepth 100000 in
set_option maxHeartbeats 4000000 in
theorem head2 : wordsSigns headL = headW := by kernel_rfl
set_option maxRecDepth 100000 in
set_option maxHeartbeats 4000000 in
theorem head3 : behindMainWord headW = cutL :: headW.drop 3 := by kernel_rfl
theorem headIs : behindMainWord (wordsSigns Tryz.prog.initOrder.toList) = cutL :: headW.drop 3 := by rw [head1, head2, head3]
set_option maxHeartbeats 4000000 in
theorem laysLater0 : Tryz.prog.laysLater = false := by kernel_rfl
set_option maxHeartbeats 4000000 in
theorem bearsReflect0 : Tryz.prog.bearsReflect = false := by kernel_rfl
set_option maxHeartbeats 4000000 in
theorem doorRows0 : Tryz.prog.doorRows = [] := by kernel_rfl
theorem doorFits0 : Tryz.prog.doorFits [] = true := by unfold Program.doorFits; rw [doorRows0]; kernel_rfl
theorem mayEnter0 : Tryz.prog.mayEnter = true := by rw [enter_eq, headIs, laysLater0, bearsReflect0, enterOf_cut _ _ doorFits0]
theorem make0 : Tryz.prog.make = some Make.cut := by rw [make_eq, headIs, mkOf_cut]
theorem liftsFinal0 : Tryz.prog.liftsFinal = false := by rw [final_eq, lifts_eq, headIs, liftsOf_cut, finalOf_cut]
set_option maxHeartbeats 4000000 in
theorem laidOut0 : laidOutB Tryz.prog = true := by kernel_rfl
set_option maxHeartbeats 4000000 in
theorem mapsRowed0 : mapsRowed Tryz.prog = true := by kernel_rfl
set_option maxHeartbeats 4000000 in
theorem stopsHeard0 : Tryz.prog.stopsHeard = true := by kernel_rfl
set_option maxHeartbeats 4000000 in
theorem plainKeys0 : (true == Tryz.prog.plainKeys) = true := by kernel_rfl
theorem own0 : ownKnob Tryz.prog.godebug = none := by kernel_rfl
end Go.Proofs.YtoakccknimoogaaGreat
