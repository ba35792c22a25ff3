/-
  No cell of these rows narrows 'for every input' (looked for: loops, veiled, ifaces, maps, wideKeys, modest, calm, conditions, laid).
  DERIVED. THE GIVEN ROWS OF THIS SEAT. 19 by the template 'for every input the law returns true; each argument reads behind the call as it read before'; 0 by the template 'total and deterministic' (their statements: YticdbilkhkfopaaGreatTotals.lean).
  GIVEN WITH THE SEED: the statements are not yours to turn. If you find one false, say at which input.
  Laid BY PROGRAM, IN A SANDBOX (cutbox-rows.mjs): the forced cells as the released guide's own fill.sh prints them over the translation 6a0d7c8ebd505a2e… (all of the seat's roots in one cut). By AI agents, Wed Nov 11 2026. No macro, syntax, notation, axiom, sorry.
-/
import Derived.Test.YticdbilkhkfopaaGreatChecked
import GoSem.Claim
import GoSem.ClaimJoined
import GoSem.ClaimMapViews
import Derived.JoinedTies
import Derived.KernelRfl
namespace Go.Proofs.YticdbilkhkfopaaGreat
/- THE CELL 'sum', in the pinned program and in every row, IS THE sha256 OF THE DUMP (.gsa) THAT YticdbilkhkfopaaGreatProg.lean LOADS. Nothing in Lean hashes anything: it is a label: what it is worth is what the hold of that sum in a sandbox is worth. -/
noncomputable def Tryz.pinned : Pinned := { name := "yticdbilkhkfopaagreat", sum := "6a0d7c8ebd505a2eda0bad6b0efdca708b2fb20384011630b41c1498f51d2bcd", checked := Tryz.checked }
namespace Rows
def none {H : Type} : Left H := { results := [], args := [] }

/-- 'escutcheonlaw16.GuestPlays': WHATEVER THE INPUT: true; the input reads as it did. -/
def guestPlaysSpec : ChangeSpec := { name := "guestPlays", fn := fun _ => fun
  | [d1, d2, d3] => { results := [.lit (.bool true)], args := [d1, d2, d3] }
  | _ => none }
def guestPlaysRow : OpenClaim := { program := "yticdbilkhkfopaagreat", sum := "6a0d7c8ebd505a2eda0bad6b0efdca708b2fb20384011630b41c1498f51d2bcd", func := "escutcheon/escutcheonlaw16.GuestPlays", spec := "guestPlays", inPlace := ["sync/atomic.LoadUint32", "(*internal/sync.Mutex).Lock", "internal/race.Disable", "sync/atomic.CompareAndSwapInt32", "internal/race.Enable", "internal/race.Acquire", "(*internal/sync.Mutex).lockSlow", "internal/sync.runtime_canSpin", "internal/sync.runtime_doSpin", "internal/sync.throw", "internal/sync.runtime_nanotime", "internal/sync.runtime_SemacquireMutex", "sync/atomic.AddInt32", "(*internal/sync.Mutex).Unlock", "internal/race.ReleaseMerge", "(*internal/sync.Mutex).unlockSlow", "internal/sync.fatal", "internal/sync.runtime_Semrelease", "sync/atomic.StoreUint32", "internal/abi.NoEscape", "internal/bytealg.MakeNoZero", "sync/atomic.AddInt64", "sync/atomic.LoadInt64", "sync/atomic.StoreInt64"], unfollowed := true, recurses := true, apart := false }
def GuestPlaysSaid : Prop := guestPlaysRow.holds Tryz.pinned (OpenSpec.ofChange guestPlaysSpec)

/-- ITS FALSE NEIGHBOUR: 'it returns false'. Refute it at one input. -/
def guestPlaysWrong : ChangeSpec := { name := "guestPlays", fn := fun _ => fun
  | [d1, d2, d3] => { results := [.lit (.bool false)], args := [d1, d2, d3] }
  | _ => none }
def GuestPlaysWrongFalsely : Prop := guestPlaysRow.holds Tryz.pinned (OpenSpec.ofChange guestPlaysWrong)

/-- 'escutcheonlaw16.ShakeAgrees': WHATEVER THE INPUT: true; the input reads as it did. -/
def shakeAgreesSpec : ChangeSpec := { name := "shakeAgrees", fn := fun _ => fun
  | [d1, d2, d3, d4, d5] => { results := [.lit (.bool true)], args := [d1, d2, d3, d4, d5] }
  | _ => none }
def shakeAgreesRow : OpenClaim := { program := "yticdbilkhkfopaagreat", sum := "6a0d7c8ebd505a2eda0bad6b0efdca708b2fb20384011630b41c1498f51d2bcd", func := "escutcheon/escutcheonlaw16.ShakeAgrees", spec := "shakeAgrees", inPlace := ["sync/atomic.LoadUint32", "(*internal/sync.Mutex).Lock", "internal/race.Disable", "sync/atomic.CompareAndSwapInt32", "internal/race.Enable", "internal/race.Acquire", "(*internal/sync.Mutex).lockSlow", "internal/sync.runtime_canSpin", "internal/sync.runtime_doSpin", "internal/sync.throw", "internal/sync.runtime_nanotime", "internal/sync.runtime_SemacquireMutex", "sync/atomic.AddInt32", "(*internal/sync.Mutex).Unlock", "internal/race.ReleaseMerge", "(*internal/sync.Mutex).unlockSlow", "internal/sync.fatal", "internal/sync.runtime_Semrelease", "sync/atomic.StoreUint32", "internal/abi.NoEscape", "internal/bytealg.MakeNoZero", "sync/atomic.AddInt64", "sync/atomic.LoadInt64", "sync/atomic.StoreInt64"], unfollowed := true, recurses := true, apart := false }
def ShakeAgreesSaid : Prop := shakeAgreesRow.holds Tryz.pinned (OpenSpec.ofChange shakeAgreesSpec)

/-- ITS FALSE NEIGHBOUR: 'it returns false'. Refute it at one input. -/
def shakeAgreesWrong : ChangeSpec := { name := "shakeAgrees", fn := fun _ => fun
  | [d1, d2, d3, d4, d5] => { results := [.lit (.bool false)], args := [d1, d2, d3, d4, d5] }
  | _ => none }
def ShakeAgreesWrongFalsely : Prop := shakeAgreesRow.holds Tryz.pinned (OpenSpec.ofChange shakeAgreesWrong)

/-- 'escutcheonlaw16.ShakeLocked': WHATEVER THE INPUT: true; the input reads as it did. -/
def shakeLockedSpec : ChangeSpec := { name := "shakeLocked", fn := fun _ => fun
  | [d1, d2, d3] => { results := [.lit (.bool true)], args := [d1, d2, d3] }
  | _ => none }
def shakeLockedRow : OpenClaim := { program := "yticdbilkhkfopaagreat", sum := "6a0d7c8ebd505a2eda0bad6b0efdca708b2fb20384011630b41c1498f51d2bcd", func := "escutcheon/escutcheonlaw16.ShakeLocked", spec := "shakeLocked", inPlace := ["sync/atomic.LoadUint32", "(*internal/sync.Mutex).Lock", "internal/race.Disable", "sync/atomic.CompareAndSwapInt32", "internal/race.Enable", "internal/race.Acquire", "(*internal/sync.Mutex).lockSlow", "internal/sync.runtime_canSpin", "internal/sync.runtime_doSpin", "internal/sync.throw", "internal/sync.runtime_nanotime", "internal/sync.runtime_SemacquireMutex", "sync/atomic.AddInt32", "(*internal/sync.Mutex).Unlock", "internal/race.ReleaseMerge", "(*internal/sync.Mutex).unlockSlow", "internal/sync.fatal", "internal/sync.runtime_Semrelease", "sync/atomic.StoreUint32", "internal/abi.NoEscape", "internal/bytealg.MakeNoZero", "sync/atomic.AddInt64", "sync/atomic.LoadInt64", "sync/atomic.StoreInt64"], unfollowed := true, recurses := true, apart := false }
def ShakeLockedSaid : Prop := shakeLockedRow.holds Tryz.pinned (OpenSpec.ofChange shakeLockedSpec)

/-- ITS FALSE NEIGHBOUR: 'it returns false'. Refute it at one input. -/
def shakeLockedWrong : ChangeSpec := { name := "shakeLocked", fn := fun _ => fun
  | [d1, d2, d3] => { results := [.lit (.bool false)], args := [d1, d2, d3] }
  | _ => none }
def ShakeLockedWrongFalsely : Prop := shakeLockedRow.holds Tryz.pinned (OpenSpec.ofChange shakeLockedWrong)

/-- 'escutcheonlaw16.ShakeStranger': WHATEVER THE INPUT: true; the input reads as it did. -/
def shakeStrangerSpec : ChangeSpec := { name := "shakeStranger", fn := fun _ => fun
  | [d1, d2, d3, d4] => { results := [.lit (.bool true)], args := [d1, d2, d3, d4] }
  | _ => none }
def shakeStrangerRow : OpenClaim := { program := "yticdbilkhkfopaagreat", sum := "6a0d7c8ebd505a2eda0bad6b0efdca708b2fb20384011630b41c1498f51d2bcd", func := "escutcheon/escutcheonlaw16.ShakeStranger", spec := "shakeStranger", inPlace := ["sync/atomic.LoadUint32", "(*internal/sync.Mutex).Lock", "internal/race.Disable", "sync/atomic.CompareAndSwapInt32", "internal/race.Enable", "internal/race.Acquire", "(*internal/sync.Mutex).lockSlow", "internal/sync.runtime_canSpin", "internal/sync.runtime_doSpin", "internal/sync.throw", "internal/sync.runtime_nanotime", "internal/sync.runtime_SemacquireMutex", "sync/atomic.AddInt32", "(*internal/sync.Mutex).Unlock", "internal/race.ReleaseMerge", "(*internal/sync.Mutex).unlockSlow", "internal/sync.fatal", "internal/sync.runtime_Semrelease", "sync/atomic.StoreUint32", "internal/abi.NoEscape", "internal/bytealg.MakeNoZero", "sync/atomic.AddInt64", "sync/atomic.LoadInt64", "sync/atomic.StoreInt64"], unfollowed := true, recurses := true, apart := false }
def ShakeStrangerSaid : Prop := shakeStrangerRow.holds Tryz.pinned (OpenSpec.ofChange shakeStrangerSpec)

/-- ITS FALSE NEIGHBOUR: 'it returns false'. Refute it at one input. -/
def shakeStrangerWrong : ChangeSpec := { name := "shakeStranger", fn := fun _ => fun
  | [d1, d2, d3, d4] => { results := [.lit (.bool false)], args := [d1, d2, d3, d4] }
  | _ => none }
def ShakeStrangerWrongFalsely : Prop := shakeStrangerRow.holds Tryz.pinned (OpenSpec.ofChange shakeStrangerWrong)

/-- 'escutcheonlaw16.ShakeOrder': WHATEVER THE INPUT: true; the input reads as it did. -/
def shakeOrderSpec : ChangeSpec := { name := "shakeOrder", fn := fun _ => fun
  | [d1, d2] => { results := [.lit (.bool true)], args := [d1, d2] }
  | _ => none }
def shakeOrderRow : OpenClaim := { program := "yticdbilkhkfopaagreat", sum := "6a0d7c8ebd505a2eda0bad6b0efdca708b2fb20384011630b41c1498f51d2bcd", func := "escutcheon/escutcheonlaw16.ShakeOrder", spec := "shakeOrder", inPlace := ["sync/atomic.LoadUint32", "(*internal/sync.Mutex).Lock", "internal/race.Disable", "sync/atomic.CompareAndSwapInt32", "internal/race.Enable", "internal/race.Acquire", "(*internal/sync.Mutex).lockSlow", "internal/sync.runtime_canSpin", "internal/sync.runtime_doSpin", "internal/sync.throw", "internal/sync.runtime_nanotime", "internal/sync.runtime_SemacquireMutex", "sync/atomic.AddInt32", "(*internal/sync.Mutex).Unlock", "internal/race.ReleaseMerge", "(*internal/sync.Mutex).unlockSlow", "internal/sync.fatal", "internal/sync.runtime_Semrelease", "sync/atomic.StoreUint32", "internal/abi.NoEscape", "internal/bytealg.MakeNoZero", "sync/atomic.AddInt64", "sync/atomic.LoadInt64", "sync/atomic.StoreInt64"], unfollowed := true, recurses := true, apart := false }
def ShakeOrderSaid : Prop := shakeOrderRow.holds Tryz.pinned (OpenSpec.ofChange shakeOrderSpec)

/-- ITS FALSE NEIGHBOUR: 'it returns false'. Refute it at one input. -/
def shakeOrderWrong : ChangeSpec := { name := "shakeOrder", fn := fun _ => fun
  | [d1, d2] => { results := [.lit (.bool false)], args := [d1, d2] }
  | _ => none }
def ShakeOrderWrongFalsely : Prop := shakeOrderRow.holds Tryz.pinned (OpenSpec.ofChange shakeOrderWrong)

/-- 'escutcheonlaw16.ShakeKeys': WHATEVER THE INPUT: true; the input reads as it did. -/
def shakeKeysSpec : ChangeSpec := { name := "shakeKeys", fn := fun _ => fun
  | [d1, d2, d3] => { results := [.lit (.bool true)], args := [d1, d2, d3] }
  | _ => none }
def shakeKeysRow : OpenClaim := { program := "yticdbilkhkfopaagreat", sum := "6a0d7c8ebd505a2eda0bad6b0efdca708b2fb20384011630b41c1498f51d2bcd", func := "escutcheon/escutcheonlaw16.ShakeKeys", spec := "shakeKeys", inPlace := ["sync/atomic.LoadUint32", "(*internal/sync.Mutex).Lock", "internal/race.Disable", "sync/atomic.CompareAndSwapInt32", "internal/race.Enable", "internal/race.Acquire", "(*internal/sync.Mutex).lockSlow", "internal/sync.runtime_canSpin", "internal/sync.runtime_doSpin", "internal/sync.throw", "internal/sync.runtime_nanotime", "internal/sync.runtime_SemacquireMutex", "sync/atomic.AddInt32", "(*internal/sync.Mutex).Unlock", "internal/race.ReleaseMerge", "(*internal/sync.Mutex).unlockSlow", "internal/sync.fatal", "internal/sync.runtime_Semrelease", "sync/atomic.StoreUint32", "internal/abi.NoEscape", "internal/bytealg.MakeNoZero", "sync/atomic.AddInt64", "sync/atomic.LoadInt64", "sync/atomic.StoreInt64"], unfollowed := true, recurses := true, apart := false }
def ShakeKeysSaid : Prop := shakeKeysRow.holds Tryz.pinned (OpenSpec.ofChange shakeKeysSpec)

/-- ITS FALSE NEIGHBOUR: 'it returns false'. Refute it at one input. -/
def shakeKeysWrong : ChangeSpec := { name := "shakeKeys", fn := fun _ => fun
  | [d1, d2, d3] => { results := [.lit (.bool false)], args := [d1, d2, d3] }
  | _ => none }
def ShakeKeysWrongFalsely : Prop := shakeKeysRow.holds Tryz.pinned (OpenSpec.ofChange shakeKeysWrong)

/-- 'escutcheonlaw16.HostPlays': WHATEVER THE INPUT: true; the input reads as it did. -/
def hostPlaysSpec : ChangeSpec := { name := "hostPlays", fn := fun _ => fun
  | [d1, d2, d3] => { results := [.lit (.bool true)], args := [d1, d2, d3] }
  | _ => none }
def hostPlaysRow : OpenClaim := { program := "yticdbilkhkfopaagreat", sum := "6a0d7c8ebd505a2eda0bad6b0efdca708b2fb20384011630b41c1498f51d2bcd", func := "escutcheon/escutcheonlaw16.HostPlays", spec := "hostPlays", inPlace := ["sync/atomic.LoadUint32", "(*internal/sync.Mutex).Lock", "internal/race.Disable", "sync/atomic.CompareAndSwapInt32", "internal/race.Enable", "internal/race.Acquire", "(*internal/sync.Mutex).lockSlow", "internal/sync.runtime_canSpin", "internal/sync.runtime_doSpin", "internal/sync.throw", "internal/sync.runtime_nanotime", "internal/sync.runtime_SemacquireMutex", "sync/atomic.AddInt32", "(*internal/sync.Mutex).Unlock", "internal/race.ReleaseMerge", "(*internal/sync.Mutex).unlockSlow", "internal/sync.fatal", "internal/sync.runtime_Semrelease", "sync/atomic.StoreUint32", "internal/abi.NoEscape", "internal/bytealg.MakeNoZero", "sync/atomic.AddInt64", "sync/atomic.LoadInt64", "sync/atomic.StoreInt64"], unfollowed := true, recurses := true, apart := false }
def HostPlaysSaid : Prop := hostPlaysRow.holds Tryz.pinned (OpenSpec.ofChange hostPlaysSpec)

/-- ITS FALSE NEIGHBOUR: 'it returns false'. Refute it at one input. -/
def hostPlaysWrong : ChangeSpec := { name := "hostPlays", fn := fun _ => fun
  | [d1, d2, d3] => { results := [.lit (.bool false)], args := [d1, d2, d3] }
  | _ => none }
def HostPlaysWrongFalsely : Prop := hostPlaysRow.holds Tryz.pinned (OpenSpec.ofChange hostPlaysWrong)

/-- 'escutcheonlaw16.ShakeTurned': WHATEVER THE INPUT: true; the input reads as it did. -/
def shakeTurnedSpec : ChangeSpec := { name := "shakeTurned", fn := fun _ => fun
  | [d1, d2, d3, d4, d5, d6, d7] => { results := [.lit (.bool true)], args := [d1, d2, d3, d4, d5, d6, d7] }
  | _ => none }
def shakeTurnedRow : OpenClaim := { program := "yticdbilkhkfopaagreat", sum := "6a0d7c8ebd505a2eda0bad6b0efdca708b2fb20384011630b41c1498f51d2bcd", func := "escutcheon/escutcheonlaw16.ShakeTurned", spec := "shakeTurned", inPlace := ["sync/atomic.LoadUint32", "(*internal/sync.Mutex).Lock", "internal/race.Disable", "sync/atomic.CompareAndSwapInt32", "internal/race.Enable", "internal/race.Acquire", "(*internal/sync.Mutex).lockSlow", "internal/sync.runtime_canSpin", "internal/sync.runtime_doSpin", "internal/sync.throw", "internal/sync.runtime_nanotime", "internal/sync.runtime_SemacquireMutex", "sync/atomic.AddInt32", "(*internal/sync.Mutex).Unlock", "internal/race.ReleaseMerge", "(*internal/sync.Mutex).unlockSlow", "internal/sync.fatal", "internal/sync.runtime_Semrelease", "sync/atomic.StoreUint32", "internal/abi.NoEscape", "internal/bytealg.MakeNoZero", "sync/atomic.AddInt64", "sync/atomic.LoadInt64", "sync/atomic.StoreInt64"], unfollowed := true, recurses := true, apart := false }
def ShakeTurnedSaid : Prop := shakeTurnedRow.holds Tryz.pinned (OpenSpec.ofChange shakeTurnedSpec)

/-- ITS FALSE NEIGHBOUR: 'it returns false'. Refute it at one input. -/
def shakeTurnedWrong : ChangeSpec := { name := "shakeTurned", fn := fun _ => fun
  | [d1, d2, d3, d4, d5, d6, d7] => { results := [.lit (.bool false)], args := [d1, d2, d3, d4, d5, d6, d7] }
  | _ => none }
def ShakeTurnedWrongFalsely : Prop := shakeTurnedRow.holds Tryz.pinned (OpenSpec.ofChange shakeTurnedWrong)

/-- 'escutcheonlaw16.ShakeFails': WHATEVER THE INPUT: true; the input reads as it did. -/
def shakeFailsSpec : ChangeSpec := { name := "shakeFails", fn := fun _ => fun
  | [d] => { results := [.lit (.bool true)], args := [d] }
  | _ => none }
def shakeFailsRow : OpenClaim := { program := "yticdbilkhkfopaagreat", sum := "6a0d7c8ebd505a2eda0bad6b0efdca708b2fb20384011630b41c1498f51d2bcd", func := "escutcheon/escutcheonlaw16.ShakeFails", spec := "shakeFails", inPlace := ["sync/atomic.LoadUint32", "(*internal/sync.Mutex).Lock", "internal/race.Disable", "sync/atomic.CompareAndSwapInt32", "internal/race.Enable", "internal/race.Acquire", "(*internal/sync.Mutex).lockSlow", "internal/sync.runtime_canSpin", "internal/sync.runtime_doSpin", "internal/sync.throw", "internal/sync.runtime_nanotime", "internal/sync.runtime_SemacquireMutex", "sync/atomic.AddInt32", "(*internal/sync.Mutex).Unlock", "internal/race.ReleaseMerge", "(*internal/sync.Mutex).unlockSlow", "internal/sync.fatal", "internal/sync.runtime_Semrelease", "sync/atomic.StoreUint32", "internal/abi.NoEscape", "internal/bytealg.MakeNoZero", "sync/atomic.AddInt64", "sync/atomic.LoadInt64", "sync/atomic.StoreInt64"], unfollowed := true, recurses := true, apart := false }
def ShakeFailsSaid : Prop := shakeFailsRow.holds Tryz.pinned (OpenSpec.ofChange shakeFailsSpec)

/-- ITS FALSE NEIGHBOUR: 'it returns false'. Refute it at one input. -/
def shakeFailsWrong : ChangeSpec := { name := "shakeFails", fn := fun _ => fun
  | [d] => { results := [.lit (.bool false)], args := [d] }
  | _ => none }
def ShakeFailsWrongFalsely : Prop := shakeFailsRow.holds Tryz.pinned (OpenSpec.ofChange shakeFailsWrong)

/-- 'escutcheonlaw13.RecordEnds': WHATEVER THE INPUT: true; the input reads as it did. -/
def recordEndsSpec : ChangeSpec := { name := "recordEnds", fn := fun _ => fun
  | [d1, d2, d3] => { results := [.lit (.bool true)], args := [d1, d2, d3] }
  | _ => none }
def recordEndsRow : OpenClaim := { program := "yticdbilkhkfopaagreat", sum := "6a0d7c8ebd505a2eda0bad6b0efdca708b2fb20384011630b41c1498f51d2bcd", func := "escutcheon/escutcheonlaw13.RecordEnds", spec := "recordEnds", inPlace := ["sync/atomic.LoadUint32", "(*internal/sync.Mutex).Lock", "internal/race.Disable", "sync/atomic.CompareAndSwapInt32", "internal/race.Enable", "internal/race.Acquire", "(*internal/sync.Mutex).lockSlow", "internal/sync.runtime_canSpin", "internal/sync.runtime_doSpin", "internal/sync.throw", "internal/sync.runtime_nanotime", "internal/sync.runtime_SemacquireMutex", "sync/atomic.AddInt32", "(*internal/sync.Mutex).Unlock", "internal/race.ReleaseMerge", "(*internal/sync.Mutex).unlockSlow", "internal/sync.fatal", "internal/sync.runtime_Semrelease", "sync/atomic.StoreUint32", "internal/abi.NoEscape", "internal/bytealg.MakeNoZero", "sync/atomic.LoadInt64", "sync/atomic.AddInt64", "sync/atomic.AddUint32", "math/bits.Add64", "sync/atomic.LoadInt32"], unfollowed := true, recurses := true, apart := false }
def RecordEndsSaid : Prop := recordEndsRow.holds Tryz.pinned (OpenSpec.ofChange recordEndsSpec)

/-- ITS FALSE NEIGHBOUR: 'it returns false'. Refute it at one input. -/
def recordEndsWrong : ChangeSpec := { name := "recordEnds", fn := fun _ => fun
  | [d1, d2, d3] => { results := [.lit (.bool false)], args := [d1, d2, d3] }
  | _ => none }
def RecordEndsWrongFalsely : Prop := recordEndsRow.holds Tryz.pinned (OpenSpec.ofChange recordEndsWrong)

/-- 'escutcheonlaw13.RecordShapes': WHATEVER THE INPUT: true; the input reads as it did. -/
def recordShapesSpec : ChangeSpec := { name := "recordShapes", fn := fun _ => fun
  | [d1, d2, d3, d4] => { results := [.lit (.bool true)], args := [d1, d2, d3, d4] }
  | _ => none }
def recordShapesRow : OpenClaim := { program := "yticdbilkhkfopaagreat", sum := "6a0d7c8ebd505a2eda0bad6b0efdca708b2fb20384011630b41c1498f51d2bcd", func := "escutcheon/escutcheonlaw13.RecordShapes", spec := "recordShapes", inPlace := ["sync/atomic.LoadUint32", "(*internal/sync.Mutex).Lock", "internal/race.Disable", "sync/atomic.CompareAndSwapInt32", "internal/race.Enable", "internal/race.Acquire", "(*internal/sync.Mutex).lockSlow", "internal/sync.runtime_canSpin", "internal/sync.runtime_doSpin", "internal/sync.throw", "internal/sync.runtime_nanotime", "internal/sync.runtime_SemacquireMutex", "sync/atomic.AddInt32", "(*internal/sync.Mutex).Unlock", "internal/race.ReleaseMerge", "(*internal/sync.Mutex).unlockSlow", "internal/sync.fatal", "internal/sync.runtime_Semrelease", "sync/atomic.StoreUint32", "internal/abi.NoEscape", "internal/bytealg.MakeNoZero", "sync/atomic.LoadInt64", "sync/atomic.AddInt64", "sync/atomic.AddUint32", "math/bits.Add64", "sync/atomic.LoadInt32"], unfollowed := true, recurses := true, apart := false }
def RecordShapesSaid : Prop := recordShapesRow.holds Tryz.pinned (OpenSpec.ofChange recordShapesSpec)

/-- ITS FALSE NEIGHBOUR: 'it returns false'. Refute it at one input. -/
def recordShapesWrong : ChangeSpec := { name := "recordShapes", fn := fun _ => fun
  | [d1, d2, d3, d4] => { results := [.lit (.bool false)], args := [d1, d2, d3, d4] }
  | _ => none }
def RecordShapesWrongFalsely : Prop := recordShapesRow.holds Tryz.pinned (OpenSpec.ofChange recordShapesWrong)

/-- 'escutcheonlaw13.RecordHeads': WHATEVER THE INPUT: true; the input reads as it did. -/
def recordHeadsSpec : ChangeSpec := { name := "recordHeads", fn := fun _ => fun
  | [d1, d2, d3] => { results := [.lit (.bool true)], args := [d1, d2, d3] }
  | _ => none }
def recordHeadsRow : OpenClaim := { program := "yticdbilkhkfopaagreat", sum := "6a0d7c8ebd505a2eda0bad6b0efdca708b2fb20384011630b41c1498f51d2bcd", func := "escutcheon/escutcheonlaw13.RecordHeads", spec := "recordHeads", inPlace := ["sync/atomic.LoadUint32", "(*internal/sync.Mutex).Lock", "internal/race.Disable", "sync/atomic.CompareAndSwapInt32", "internal/race.Enable", "internal/race.Acquire", "(*internal/sync.Mutex).lockSlow", "internal/sync.runtime_canSpin", "internal/sync.runtime_doSpin", "internal/sync.throw", "internal/sync.runtime_nanotime", "internal/sync.runtime_SemacquireMutex", "sync/atomic.AddInt32", "(*internal/sync.Mutex).Unlock", "internal/race.ReleaseMerge", "(*internal/sync.Mutex).unlockSlow", "internal/sync.fatal", "internal/sync.runtime_Semrelease", "sync/atomic.StoreUint32", "internal/abi.NoEscape", "internal/bytealg.MakeNoZero", "sync/atomic.LoadInt64", "sync/atomic.AddInt64", "sync/atomic.AddUint32", "math/bits.Add64", "sync/atomic.LoadInt32"], unfollowed := true, recurses := true, apart := false }
def RecordHeadsSaid : Prop := recordHeadsRow.holds Tryz.pinned (OpenSpec.ofChange recordHeadsSpec)

/-- ITS FALSE NEIGHBOUR: 'it returns false'. Refute it at one input. -/
def recordHeadsWrong : ChangeSpec := { name := "recordHeads", fn := fun _ => fun
  | [d1, d2, d3] => { results := [.lit (.bool false)], args := [d1, d2, d3] }
  | _ => none }
def RecordHeadsWrongFalsely : Prop := recordHeadsRow.holds Tryz.pinned (OpenSpec.ofChange recordHeadsWrong)

/-- 'escutcheonlaw13.RecordRefuses': WHATEVER THE INPUT: true; the input reads as it did. -/
def recordRefusesSpec : ChangeSpec := { name := "recordRefuses", fn := fun _ => fun
  | [d1, d2, d3, d4] => { results := [.lit (.bool true)], args := [d1, d2, d3, d4] }
  | _ => none }
def recordRefusesRow : OpenClaim := { program := "yticdbilkhkfopaagreat", sum := "6a0d7c8ebd505a2eda0bad6b0efdca708b2fb20384011630b41c1498f51d2bcd", func := "escutcheon/escutcheonlaw13.RecordRefuses", spec := "recordRefuses", inPlace := ["sync/atomic.LoadUint32", "(*internal/sync.Mutex).Lock", "internal/race.Disable", "sync/atomic.CompareAndSwapInt32", "internal/race.Enable", "internal/race.Acquire", "(*internal/sync.Mutex).lockSlow", "internal/sync.runtime_canSpin", "internal/sync.runtime_doSpin", "internal/sync.throw", "internal/sync.runtime_nanotime", "internal/sync.runtime_SemacquireMutex", "sync/atomic.AddInt32", "(*internal/sync.Mutex).Unlock", "internal/race.ReleaseMerge", "(*internal/sync.Mutex).unlockSlow", "internal/sync.fatal", "internal/sync.runtime_Semrelease", "sync/atomic.StoreUint32", "internal/abi.NoEscape", "internal/bytealg.MakeNoZero", "sync/atomic.LoadInt64", "sync/atomic.AddInt64", "sync/atomic.AddUint32", "math/bits.Add64", "sync/atomic.LoadInt32"], unfollowed := true, recurses := true, apart := false }
def RecordRefusesSaid : Prop := recordRefusesRow.holds Tryz.pinned (OpenSpec.ofChange recordRefusesSpec)

/-- ITS FALSE NEIGHBOUR: 'it returns false'. Refute it at one input. -/
def recordRefusesWrong : ChangeSpec := { name := "recordRefuses", fn := fun _ => fun
  | [d1, d2, d3, d4] => { results := [.lit (.bool false)], args := [d1, d2, d3, d4] }
  | _ => none }
def RecordRefusesWrongFalsely : Prop := recordRefusesRow.holds Tryz.pinned (OpenSpec.ofChange recordRefusesWrong)

/-- 'escutcheonlaw13.RecordTwo': WHATEVER THE INPUT: true; the input reads as it did. -/
def recordTwoSpec : ChangeSpec := { name := "recordTwo", fn := fun _ => fun
  | [d1, d2, d3] => { results := [.lit (.bool true)], args := [d1, d2, d3] }
  | _ => none }
def recordTwoRow : OpenClaim := { program := "yticdbilkhkfopaagreat", sum := "6a0d7c8ebd505a2eda0bad6b0efdca708b2fb20384011630b41c1498f51d2bcd", func := "escutcheon/escutcheonlaw13.RecordTwo", spec := "recordTwo", inPlace := ["sync/atomic.LoadUint32", "(*internal/sync.Mutex).Lock", "internal/race.Disable", "sync/atomic.CompareAndSwapInt32", "internal/race.Enable", "internal/race.Acquire", "(*internal/sync.Mutex).lockSlow", "internal/sync.runtime_canSpin", "internal/sync.runtime_doSpin", "internal/sync.throw", "internal/sync.runtime_nanotime", "internal/sync.runtime_SemacquireMutex", "sync/atomic.AddInt32", "(*internal/sync.Mutex).Unlock", "internal/race.ReleaseMerge", "(*internal/sync.Mutex).unlockSlow", "internal/sync.fatal", "internal/sync.runtime_Semrelease", "sync/atomic.StoreUint32", "internal/abi.NoEscape", "internal/bytealg.MakeNoZero", "sync/atomic.LoadInt64", "sync/atomic.AddInt64", "sync/atomic.AddUint32", "math/bits.Add64", "sync/atomic.LoadInt32"], unfollowed := true, recurses := true, apart := false }
def RecordTwoSaid : Prop := recordTwoRow.holds Tryz.pinned (OpenSpec.ofChange recordTwoSpec)

/-- ITS FALSE NEIGHBOUR: 'it returns false'. Refute it at one input. -/
def recordTwoWrong : ChangeSpec := { name := "recordTwo", fn := fun _ => fun
  | [d1, d2, d3] => { results := [.lit (.bool false)], args := [d1, d2, d3] }
  | _ => none }
def RecordTwoWrongFalsely : Prop := recordTwoRow.holds Tryz.pinned (OpenSpec.ofChange recordTwoWrong)

/-- 'escutcheonlaw13.RecordPlays': WHATEVER THE INPUT: true; the input reads as it did. -/
def recordPlaysSpec : ChangeSpec := { name := "recordPlays", fn := fun _ => fun
  | [d1, d2] => { results := [.lit (.bool true)], args := [d1, d2] }
  | _ => none }
def recordPlaysRow : OpenClaim := { program := "yticdbilkhkfopaagreat", sum := "6a0d7c8ebd505a2eda0bad6b0efdca708b2fb20384011630b41c1498f51d2bcd", func := "escutcheon/escutcheonlaw13.RecordPlays", spec := "recordPlays", inPlace := ["sync/atomic.LoadUint32", "(*internal/sync.Mutex).Lock", "internal/race.Disable", "sync/atomic.CompareAndSwapInt32", "internal/race.Enable", "internal/race.Acquire", "(*internal/sync.Mutex).lockSlow", "internal/sync.runtime_canSpin", "internal/sync.runtime_doSpin", "internal/sync.throw", "internal/sync.runtime_nanotime", "internal/sync.runtime_SemacquireMutex", "sync/atomic.AddInt32", "(*internal/sync.Mutex).Unlock", "internal/race.ReleaseMerge", "(*internal/sync.Mutex).unlockSlow", "internal/sync.fatal", "internal/sync.runtime_Semrelease", "sync/atomic.StoreUint32", "internal/abi.NoEscape", "internal/bytealg.MakeNoZero", "sync/atomic.LoadInt64", "sync/atomic.AddInt64", "sync/atomic.AddUint32", "math/bits.Add64", "sync/atomic.LoadInt32"], unfollowed := true, recurses := true, apart := false }
def RecordPlaysSaid : Prop := recordPlaysRow.holds Tryz.pinned (OpenSpec.ofChange recordPlaysSpec)

/-- ITS FALSE NEIGHBOUR: 'it returns false'. Refute it at one input. -/
def recordPlaysWrong : ChangeSpec := { name := "recordPlays", fn := fun _ => fun
  | [d1, d2] => { results := [.lit (.bool false)], args := [d1, d2] }
  | _ => none }
def RecordPlaysWrongFalsely : Prop := recordPlaysRow.holds Tryz.pinned (OpenSpec.ofChange recordPlaysWrong)

/-- 'escutcheonlaw13.RecordOrder': WHATEVER THE INPUT: true; the input reads as it did. -/
def recordOrderSpec : ChangeSpec := { name := "recordOrder", fn := fun _ => fun
  | [d1, d2, d3] => { results := [.lit (.bool true)], args := [d1, d2, d3] }
  | _ => none }
def recordOrderRow : OpenClaim := { program := "yticdbilkhkfopaagreat", sum := "6a0d7c8ebd505a2eda0bad6b0efdca708b2fb20384011630b41c1498f51d2bcd", func := "escutcheon/escutcheonlaw13.RecordOrder", spec := "recordOrder", inPlace := ["sync/atomic.LoadUint32", "(*internal/sync.Mutex).Lock", "internal/race.Disable", "sync/atomic.CompareAndSwapInt32", "internal/race.Enable", "internal/race.Acquire", "(*internal/sync.Mutex).lockSlow", "internal/sync.runtime_canSpin", "internal/sync.runtime_doSpin", "internal/sync.throw", "internal/sync.runtime_nanotime", "internal/sync.runtime_SemacquireMutex", "sync/atomic.AddInt32", "(*internal/sync.Mutex).Unlock", "internal/race.ReleaseMerge", "(*internal/sync.Mutex).unlockSlow", "internal/sync.fatal", "internal/sync.runtime_Semrelease", "sync/atomic.StoreUint32", "internal/abi.NoEscape", "internal/bytealg.MakeNoZero", "sync/atomic.LoadInt64", "sync/atomic.AddInt64", "sync/atomic.AddUint32", "math/bits.Add64", "sync/atomic.LoadInt32"], unfollowed := true, recurses := true, apart := false }
def RecordOrderSaid : Prop := recordOrderRow.holds Tryz.pinned (OpenSpec.ofChange recordOrderSpec)

/-- ITS FALSE NEIGHBOUR: 'it returns false'. Refute it at one input. -/
def recordOrderWrong : ChangeSpec := { name := "recordOrder", fn := fun _ => fun
  | [d1, d2, d3] => { results := [.lit (.bool false)], args := [d1, d2, d3] }
  | _ => none }
def RecordOrderWrongFalsely : Prop := recordOrderRow.holds Tryz.pinned (OpenSpec.ofChange recordOrderWrong)

/-- 'escutcheonlaw13.RecordEpochs': WHATEVER THE INPUT: true; the input reads as it did. -/
def recordEpochsSpec : ChangeSpec := { name := "recordEpochs", fn := fun _ => fun
  | [d1, d2, d3] => { results := [.lit (.bool true)], args := [d1, d2, d3] }
  | _ => none }
def recordEpochsRow : OpenClaim := { program := "yticdbilkhkfopaagreat", sum := "6a0d7c8ebd505a2eda0bad6b0efdca708b2fb20384011630b41c1498f51d2bcd", func := "escutcheon/escutcheonlaw13.RecordEpochs", spec := "recordEpochs", inPlace := ["sync/atomic.LoadUint32", "(*internal/sync.Mutex).Lock", "internal/race.Disable", "sync/atomic.CompareAndSwapInt32", "internal/race.Enable", "internal/race.Acquire", "(*internal/sync.Mutex).lockSlow", "internal/sync.runtime_canSpin", "internal/sync.runtime_doSpin", "internal/sync.throw", "internal/sync.runtime_nanotime", "internal/sync.runtime_SemacquireMutex", "sync/atomic.AddInt32", "(*internal/sync.Mutex).Unlock", "internal/race.ReleaseMerge", "(*internal/sync.Mutex).unlockSlow", "internal/sync.fatal", "internal/sync.runtime_Semrelease", "sync/atomic.StoreUint32", "internal/abi.NoEscape", "internal/bytealg.MakeNoZero", "sync/atomic.LoadInt64", "sync/atomic.AddInt64", "sync/atomic.AddUint32", "math/bits.Add64", "sync/atomic.LoadInt32"], unfollowed := true, recurses := true, apart := false }
def RecordEpochsSaid : Prop := recordEpochsRow.holds Tryz.pinned (OpenSpec.ofChange recordEpochsSpec)

/-- ITS FALSE NEIGHBOUR: 'it returns false'. Refute it at one input. -/
def recordEpochsWrong : ChangeSpec := { name := "recordEpochs", fn := fun _ => fun
  | [d1, d2, d3] => { results := [.lit (.bool false)], args := [d1, d2, d3] }
  | _ => none }
def RecordEpochsWrongFalsely : Prop := recordEpochsRow.holds Tryz.pinned (OpenSpec.ofChange recordEpochsWrong)

/-- 'escutcheonlaw13.RecordFar': WHATEVER THE INPUT: true; the input reads as it did. -/
def recordFarSpec : ChangeSpec := { name := "recordFar", fn := fun _ => fun
  | [d1, d2] => { results := [.lit (.bool true)], args := [d1, d2] }
  | _ => none }
def recordFarRow : OpenClaim := { program := "yticdbilkhkfopaagreat", sum := "6a0d7c8ebd505a2eda0bad6b0efdca708b2fb20384011630b41c1498f51d2bcd", func := "escutcheon/escutcheonlaw13.RecordFar", spec := "recordFar", inPlace := ["sync/atomic.LoadUint32", "(*internal/sync.Mutex).Lock", "internal/race.Disable", "sync/atomic.CompareAndSwapInt32", "internal/race.Enable", "internal/race.Acquire", "(*internal/sync.Mutex).lockSlow", "internal/sync.runtime_canSpin", "internal/sync.runtime_doSpin", "internal/sync.throw", "internal/sync.runtime_nanotime", "internal/sync.runtime_SemacquireMutex", "sync/atomic.AddInt32", "(*internal/sync.Mutex).Unlock", "internal/race.ReleaseMerge", "(*internal/sync.Mutex).unlockSlow", "internal/sync.fatal", "internal/sync.runtime_Semrelease", "sync/atomic.StoreUint32", "internal/abi.NoEscape", "internal/bytealg.MakeNoZero", "sync/atomic.LoadInt64", "sync/atomic.AddInt64", "sync/atomic.AddUint32", "math/bits.Add64", "sync/atomic.LoadInt32"], unfollowed := true, recurses := true, apart := false }
def RecordFarSaid : Prop := recordFarRow.holds Tryz.pinned (OpenSpec.ofChange recordFarSpec)

/-- ITS FALSE NEIGHBOUR: 'it returns false'. Refute it at one input. -/
def recordFarWrong : ChangeSpec := { name := "recordFar", fn := fun _ => fun
  | [d1, d2] => { results := [.lit (.bool false)], args := [d1, d2] }
  | _ => none }
def RecordFarWrongFalsely : Prop := recordFarRow.holds Tryz.pinned (OpenSpec.ofChange recordFarWrong)

/-- 'escutcheonlaw13.RecordCross': WHATEVER THE INPUT: true; the input reads as it did. -/
def recordCrossSpec : ChangeSpec := { name := "recordCross", fn := fun _ => fun
  | [d1, d2, d3] => { results := [.lit (.bool true)], args := [d1, d2, d3] }
  | _ => none }
def recordCrossRow : OpenClaim := { program := "yticdbilkhkfopaagreat", sum := "6a0d7c8ebd505a2eda0bad6b0efdca708b2fb20384011630b41c1498f51d2bcd", func := "escutcheon/escutcheonlaw13.RecordCross", spec := "recordCross", inPlace := ["sync/atomic.LoadUint32", "(*internal/sync.Mutex).Lock", "internal/race.Disable", "sync/atomic.CompareAndSwapInt32", "internal/race.Enable", "internal/race.Acquire", "(*internal/sync.Mutex).lockSlow", "internal/sync.runtime_canSpin", "internal/sync.runtime_doSpin", "internal/sync.throw", "internal/sync.runtime_nanotime", "internal/sync.runtime_SemacquireMutex", "sync/atomic.AddInt32", "(*internal/sync.Mutex).Unlock", "internal/race.ReleaseMerge", "(*internal/sync.Mutex).unlockSlow", "internal/sync.fatal", "internal/sync.runtime_Semrelease", "sync/atomic.StoreUint32", "internal/abi.NoEscape", "internal/bytealg.MakeNoZero", "sync/atomic.LoadInt64", "sync/atomic.AddInt64", "sync/atomic.AddUint32", "math/bits.Add64", "sync/atomic.LoadInt32"], unfollowed := true, recurses := true, apart := false }
def RecordCrossSaid : Prop := recordCrossRow.holds Tryz.pinned (OpenSpec.ofChange recordCrossSpec)

/-- ITS FALSE NEIGHBOUR: 'it returns false'. Refute it at one input. -/
def recordCrossWrong : ChangeSpec := { name := "recordCross", fn := fun _ => fun
  | [d1, d2, d3] => { results := [.lit (.bool false)], args := [d1, d2, d3] }
  | _ => none }
def RecordCrossWrongFalsely : Prop := recordCrossRow.holds Tryz.pinned (OpenSpec.ofChange recordCrossWrong)

/- THE SECOND FORM. 'bulk': how many values and letters a reading holds, each counted each time it is reached (what is shared counts as often as it is met; a slice's spare places count too). A statement '..UptoSaid' is the law's where the arguments, and the package variables that the reading takes, are together of bulk at most 1048576: NARROWER than '..Said'. Prove '..Said' where nothing that the law and all that it calls make is longer than what came in: it says more and counts as full. Else prove '..UptoSaid'. A law counts once. -/
mutual
def uptoBulk {H : Type} : DataW H → Nat
  | .lit (.string bytes) => bytes.length + 1
  | .lit _ => 1
  | .nil => 1
  | .ptr d => uptoBulk d + 1
  | .slice elems spare => uptoBulkAll elems + uptoBulkAll spare + 1
  | .agg parts => uptoBulkAll parts + 1
  | .iface _ d => uptoBulk d + 1
  | .map entries => uptoBulkEntries entries + 1
  | .held _ => 1
def uptoBulkAll {H : Type} : List (DataW H) → Nat
  | [] => 0
  | d :: r => uptoBulk d + uptoBulkAll r
def uptoBulkEntries {H : Type} : List (Lit × DataW H) → Nat
  | [] => 0
  | x :: r => uptoBulkEntry x + uptoBulkEntries r
def uptoBulkEntry {H : Type} : Lit × DataW H → Nat
  | (.string bytes, d) => bytes.length + uptoBulk d + 1
  | (_, d) => uptoBulk d + 1
 end
def uptoSmall : (H : Type) → List (DataW H) → Bool := fun _ ds => decide (uptoBulkAll ds ≤ 1048576)
def OpenSpec.upto (s : _root_.Go.ChangeSpec) : _root_.Go.OpenSpec := { _root_.Go.OpenSpec.ofChange s with cond := some uptoSmall }

/-- 'escutcheonlaw16.GuestPlays', WHERE WHAT IT READS IS OF BULK AT MOST 1048576: true; the input reads as it did. -/
def guestPlaysUptoRow : OpenClaim := { program := "yticdbilkhkfopaagreat", sum := "6a0d7c8ebd505a2eda0bad6b0efdca708b2fb20384011630b41c1498f51d2bcd", func := "escutcheon/escutcheonlaw16.GuestPlays", spec := "guestPlays", inPlace := ["sync/atomic.LoadUint32", "(*internal/sync.Mutex).Lock", "internal/race.Disable", "sync/atomic.CompareAndSwapInt32", "internal/race.Enable", "internal/race.Acquire", "(*internal/sync.Mutex).lockSlow", "internal/sync.runtime_canSpin", "internal/sync.runtime_doSpin", "internal/sync.throw", "internal/sync.runtime_nanotime", "internal/sync.runtime_SemacquireMutex", "sync/atomic.AddInt32", "(*internal/sync.Mutex).Unlock", "internal/race.ReleaseMerge", "(*internal/sync.Mutex).unlockSlow", "internal/sync.fatal", "internal/sync.runtime_Semrelease", "sync/atomic.StoreUint32", "internal/abi.NoEscape", "internal/bytealg.MakeNoZero", "sync/atomic.AddInt64", "sync/atomic.LoadInt64", "sync/atomic.StoreInt64"], unfollowed := true, recurses := true, apart := false, narrowed := true }
def GuestPlaysUptoSaid : Prop := guestPlaysUptoRow.holds Tryz.pinned (OpenSpec.upto guestPlaysSpec)

/-- 'escutcheonlaw16.ShakeAgrees', WHERE WHAT IT READS IS OF BULK AT MOST 1048576: true; the input reads as it did. -/
def shakeAgreesUptoRow : OpenClaim := { program := "yticdbilkhkfopaagreat", sum := "6a0d7c8ebd505a2eda0bad6b0efdca708b2fb20384011630b41c1498f51d2bcd", func := "escutcheon/escutcheonlaw16.ShakeAgrees", spec := "shakeAgrees", inPlace := ["sync/atomic.LoadUint32", "(*internal/sync.Mutex).Lock", "internal/race.Disable", "sync/atomic.CompareAndSwapInt32", "internal/race.Enable", "internal/race.Acquire", "(*internal/sync.Mutex).lockSlow", "internal/sync.runtime_canSpin", "internal/sync.runtime_doSpin", "internal/sync.throw", "internal/sync.runtime_nanotime", "internal/sync.runtime_SemacquireMutex", "sync/atomic.AddInt32", "(*internal/sync.Mutex).Unlock", "internal/race.ReleaseMerge", "(*internal/sync.Mutex).unlockSlow", "internal/sync.fatal", "internal/sync.runtime_Semrelease", "sync/atomic.StoreUint32", "internal/abi.NoEscape", "internal/bytealg.MakeNoZero", "sync/atomic.AddInt64", "sync/atomic.LoadInt64", "sync/atomic.StoreInt64"], unfollowed := true, recurses := true, apart := false, narrowed := true }
def ShakeAgreesUptoSaid : Prop := shakeAgreesUptoRow.holds Tryz.pinned (OpenSpec.upto shakeAgreesSpec)

/-- 'escutcheonlaw16.ShakeLocked', WHERE WHAT IT READS IS OF BULK AT MOST 1048576: true; the input reads as it did. -/
def shakeLockedUptoRow : OpenClaim := { program := "yticdbilkhkfopaagreat", sum := "6a0d7c8ebd505a2eda0bad6b0efdca708b2fb20384011630b41c1498f51d2bcd", func := "escutcheon/escutcheonlaw16.ShakeLocked", spec := "shakeLocked", inPlace := ["sync/atomic.LoadUint32", "(*internal/sync.Mutex).Lock", "internal/race.Disable", "sync/atomic.CompareAndSwapInt32", "internal/race.Enable", "internal/race.Acquire", "(*internal/sync.Mutex).lockSlow", "internal/sync.runtime_canSpin", "internal/sync.runtime_doSpin", "internal/sync.throw", "internal/sync.runtime_nanotime", "internal/sync.runtime_SemacquireMutex", "sync/atomic.AddInt32", "(*internal/sync.Mutex).Unlock", "internal/race.ReleaseMerge", "(*internal/sync.Mutex).unlockSlow", "internal/sync.fatal", "internal/sync.runtime_Semrelease", "sync/atomic.StoreUint32", "internal/abi.NoEscape", "internal/bytealg.MakeNoZero", "sync/atomic.AddInt64", "sync/atomic.LoadInt64", "sync/atomic.StoreInt64"], unfollowed := true, recurses := true, apart := false, narrowed := true }
def ShakeLockedUptoSaid : Prop := shakeLockedUptoRow.holds Tryz.pinned (OpenSpec.upto shakeLockedSpec)

/-- 'escutcheonlaw16.ShakeStranger', WHERE WHAT IT READS IS OF BULK AT MOST 1048576: true; the input reads as it did. -/
def shakeStrangerUptoRow : OpenClaim := { program := "yticdbilkhkfopaagreat", sum := "6a0d7c8ebd505a2eda0bad6b0efdca708b2fb20384011630b41c1498f51d2bcd", func := "escutcheon/escutcheonlaw16.ShakeStranger", spec := "shakeStranger", inPlace := ["sync/atomic.LoadUint32", "(*internal/sync.Mutex).Lock", "internal/race.Disable", "sync/atomic.CompareAndSwapInt32", "internal/race.Enable", "internal/race.Acquire", "(*internal/sync.Mutex).lockSlow", "internal/sync.runtime_canSpin", "internal/sync.runtime_doSpin", "internal/sync.throw", "internal/sync.runtime_nanotime", "internal/sync.runtime_SemacquireMutex", "sync/atomic.AddInt32", "(*internal/sync.Mutex).Unlock", "internal/race.ReleaseMerge", "(*internal/sync.Mutex).unlockSlow", "internal/sync.fatal", "internal/sync.runtime_Semrelease", "sync/atomic.StoreUint32", "internal/abi.NoEscape", "internal/bytealg.MakeNoZero", "sync/atomic.AddInt64", "sync/atomic.LoadInt64", "sync/atomic.StoreInt64"], unfollowed := true, recurses := true, apart := false, narrowed := true }
def ShakeStrangerUptoSaid : Prop := shakeStrangerUptoRow.holds Tryz.pinned (OpenSpec.upto shakeStrangerSpec)

/-- 'escutcheonlaw16.ShakeOrder', WHERE WHAT IT READS IS OF BULK AT MOST 1048576: true; the input reads as it did. -/
def shakeOrderUptoRow : OpenClaim := { program := "yticdbilkhkfopaagreat", sum := "6a0d7c8ebd505a2eda0bad6b0efdca708b2fb20384011630b41c1498f51d2bcd", func := "escutcheon/escutcheonlaw16.ShakeOrder", spec := "shakeOrder", inPlace := ["sync/atomic.LoadUint32", "(*internal/sync.Mutex).Lock", "internal/race.Disable", "sync/atomic.CompareAndSwapInt32", "internal/race.Enable", "internal/race.Acquire", "(*internal/sync.Mutex).lockSlow", "internal/sync.runtime_canSpin", "internal/sync.runtime_doSpin", "internal/sync.throw", "internal/sync.runtime_nanotime", "internal/sync.runtime_SemacquireMutex", "sync/atomic.AddInt32", "(*internal/sync.Mutex).Unlock", "internal/race.ReleaseMerge", "(*internal/sync.Mutex).unlockSlow", "internal/sync.fatal", "internal/sync.runtime_Semrelease", "sync/atomic.StoreUint32", "internal/abi.NoEscape", "internal/bytealg.MakeNoZero", "sync/atomic.AddInt64", "sync/atomic.LoadInt64", "sync/atomic.StoreInt64"], unfollowed := true, recurses := true, apart := false, narrowed := true }
def ShakeOrderUptoSaid : Prop := shakeOrderUptoRow.holds Tryz.pinned (OpenSpec.upto shakeOrderSpec)

/-- 'escutcheonlaw16.ShakeKeys', WHERE WHAT IT READS IS OF BULK AT MOST 1048576: true; the input reads as it did. -/
def shakeKeysUptoRow : OpenClaim := { program := "yticdbilkhkfopaagreat", sum := "6a0d7c8ebd505a2eda0bad6b0efdca708b2fb20384011630b41c1498f51d2bcd", func := "escutcheon/escutcheonlaw16.ShakeKeys", spec := "shakeKeys", inPlace := ["sync/atomic.LoadUint32", "(*internal/sync.Mutex).Lock", "internal/race.Disable", "sync/atomic.CompareAndSwapInt32", "internal/race.Enable", "internal/race.Acquire", "(*internal/sync.Mutex).lockSlow", "internal/sync.runtime_canSpin", "internal/sync.runtime_doSpin", "internal/sync.throw", "internal/sync.runtime_nanotime", "internal/sync.runtime_SemacquireMutex", "sync/atomic.AddInt32", "(*internal/sync.Mutex).Unlock", "internal/race.ReleaseMerge", "(*internal/sync.Mutex).unlockSlow", "internal/sync.fatal", "internal/sync.runtime_Semrelease", "sync/atomic.StoreUint32", "internal/abi.NoEscape", "internal/bytealg.MakeNoZero", "sync/atomic.AddInt64", "sync/atomic.LoadInt64", "sync/atomic.StoreInt64"], unfollowed := true, recurses := true, apart := false, narrowed := true }
def ShakeKeysUptoSaid : Prop := shakeKeysUptoRow.holds Tryz.pinned (OpenSpec.upto shakeKeysSpec)

/-- 'escutcheonlaw16.HostPlays', WHERE WHAT IT READS IS OF BULK AT MOST 1048576: true; the input reads as it did. -/
def hostPlaysUptoRow : OpenClaim := { program := "yticdbilkhkfopaagreat", sum := "6a0d7c8ebd505a2eda0bad6b0efdca708b2fb20384011630b41c1498f51d2bcd", func := "escutcheon/escutcheonlaw16.HostPlays", spec := "hostPlays", inPlace := ["sync/atomic.LoadUint32", "(*internal/sync.Mutex).Lock", "internal/race.Disable", "sync/atomic.CompareAndSwapInt32", "internal/race.Enable", "internal/race.Acquire", "(*internal/sync.Mutex).lockSlow", "internal/sync.runtime_canSpin", "internal/sync.runtime_doSpin", "internal/sync.throw", "internal/sync.runtime_nanotime", "internal/sync.runtime_SemacquireMutex", "sync/atomic.AddInt32", "(*internal/sync.Mutex).Unlock", "internal/race.ReleaseMerge", "(*internal/sync.Mutex).unlockSlow", "internal/sync.fatal", "internal/sync.runtime_Semrelease", "sync/atomic.StoreUint32", "internal/abi.NoEscape", "internal/bytealg.MakeNoZero", "sync/atomic.AddInt64", "sync/atomic.LoadInt64", "sync/atomic.StoreInt64"], unfollowed := true, recurses := true, apart := false, narrowed := true }
def HostPlaysUptoSaid : Prop := hostPlaysUptoRow.holds Tryz.pinned (OpenSpec.upto hostPlaysSpec)

/-- 'escutcheonlaw16.ShakeTurned', WHERE WHAT IT READS IS OF BULK AT MOST 1048576: true; the input reads as it did. -/
def shakeTurnedUptoRow : OpenClaim := { program := "yticdbilkhkfopaagreat", sum := "6a0d7c8ebd505a2eda0bad6b0efdca708b2fb20384011630b41c1498f51d2bcd", func := "escutcheon/escutcheonlaw16.ShakeTurned", spec := "shakeTurned", inPlace := ["sync/atomic.LoadUint32", "(*internal/sync.Mutex).Lock", "internal/race.Disable", "sync/atomic.CompareAndSwapInt32", "internal/race.Enable", "internal/race.Acquire", "(*internal/sync.Mutex).lockSlow", "internal/sync.runtime_canSpin", "internal/sync.runtime_doSpin", "internal/sync.throw", "internal/sync.runtime_nanotime", "internal/sync.runtime_SemacquireMutex", "sync/atomic.AddInt32", "(*internal/sync.Mutex).Unlock", "internal/race.ReleaseMerge", "(*internal/sync.Mutex).unlockSlow", "internal/sync.fatal", "internal/sync.runtime_Semrelease", "sync/atomic.StoreUint32", "internal/abi.NoEscape", "internal/bytealg.MakeNoZero", "sync/atomic.AddInt64", "sync/atomic.LoadInt64", "sync/atomic.StoreInt64"], unfollowed := true, recurses := true, apart := false, narrowed := true }
def ShakeTurnedUptoSaid : Prop := shakeTurnedUptoRow.holds Tryz.pinned (OpenSpec.upto shakeTurnedSpec)

/-- 'escutcheonlaw16.ShakeFails', WHERE WHAT IT READS IS OF BULK AT MOST 1048576: true; the input reads as it did. -/
def shakeFailsUptoRow : OpenClaim := { program := "yticdbilkhkfopaagreat", sum := "6a0d7c8ebd505a2eda0bad6b0efdca708b2fb20384011630b41c1498f51d2bcd", func := "escutcheon/escutcheonlaw16.ShakeFails", spec := "shakeFails", inPlace := ["sync/atomic.LoadUint32", "(*internal/sync.Mutex).Lock", "internal/race.Disable", "sync/atomic.CompareAndSwapInt32", "internal/race.Enable", "internal/race.Acquire", "(*internal/sync.Mutex).lockSlow", "internal/sync.runtime_canSpin", "internal/sync.runtime_doSpin", "internal/sync.throw", "internal/sync.runtime_nanotime", "internal/sync.runtime_SemacquireMutex", "sync/atomic.AddInt32", "(*internal/sync.Mutex).Unlock", "internal/race.ReleaseMerge", "(*internal/sync.Mutex).unlockSlow", "internal/sync.fatal", "internal/sync.runtime_Semrelease", "sync/atomic.StoreUint32", "internal/abi.NoEscape", "internal/bytealg.MakeNoZero", "sync/atomic.AddInt64", "sync/atomic.LoadInt64", "sync/atomic.StoreInt64"], unfollowed := true, recurses := true, apart := false, narrowed := true }
def ShakeFailsUptoSaid : Prop := shakeFailsUptoRow.holds Tryz.pinned (OpenSpec.upto shakeFailsSpec)

/-- 'escutcheonlaw13.RecordEnds', WHERE WHAT IT READS IS OF BULK AT MOST 1048576: true; the input reads as it did. -/
def recordEndsUptoRow : OpenClaim := { program := "yticdbilkhkfopaagreat", sum := "6a0d7c8ebd505a2eda0bad6b0efdca708b2fb20384011630b41c1498f51d2bcd", func := "escutcheon/escutcheonlaw13.RecordEnds", spec := "recordEnds", inPlace := ["sync/atomic.LoadUint32", "(*internal/sync.Mutex).Lock", "internal/race.Disable", "sync/atomic.CompareAndSwapInt32", "internal/race.Enable", "internal/race.Acquire", "(*internal/sync.Mutex).lockSlow", "internal/sync.runtime_canSpin", "internal/sync.runtime_doSpin", "internal/sync.throw", "internal/sync.runtime_nanotime", "internal/sync.runtime_SemacquireMutex", "sync/atomic.AddInt32", "(*internal/sync.Mutex).Unlock", "internal/race.ReleaseMerge", "(*internal/sync.Mutex).unlockSlow", "internal/sync.fatal", "internal/sync.runtime_Semrelease", "sync/atomic.StoreUint32", "internal/abi.NoEscape", "internal/bytealg.MakeNoZero", "sync/atomic.LoadInt64", "sync/atomic.AddInt64", "sync/atomic.AddUint32", "math/bits.Add64", "sync/atomic.LoadInt32"], unfollowed := true, recurses := true, apart := false, narrowed := true }
def RecordEndsUptoSaid : Prop := recordEndsUptoRow.holds Tryz.pinned (OpenSpec.upto recordEndsSpec)

/-- 'escutcheonlaw13.RecordShapes', WHERE WHAT IT READS IS OF BULK AT MOST 1048576: true; the input reads as it did. -/
def recordShapesUptoRow : OpenClaim := { program := "yticdbilkhkfopaagreat", sum := "6a0d7c8ebd505a2eda0bad6b0efdca708b2fb20384011630b41c1498f51d2bcd", func := "escutcheon/escutcheonlaw13.RecordShapes", spec := "recordShapes", inPlace := ["sync/atomic.LoadUint32", "(*internal/sync.Mutex).Lock", "internal/race.Disable", "sync/atomic.CompareAndSwapInt32", "internal/race.Enable", "internal/race.Acquire", "(*internal/sync.Mutex).lockSlow", "internal/sync.runtime_canSpin", "internal/sync.runtime_doSpin", "internal/sync.throw", "internal/sync.runtime_nanotime", "internal/sync.runtime_SemacquireMutex", "sync/atomic.AddInt32", "(*internal/sync.Mutex).Unlock", "internal/race.ReleaseMerge", "(*internal/sync.Mutex).unlockSlow", "internal/sync.fatal", "internal/sync.runtime_Semrelease", "sync/atomic.StoreUint32", "internal/abi.NoEscape", "internal/bytealg.MakeNoZero", "sync/atomic.LoadInt64", "sync/atomic.AddInt64", "sync/atomic.AddUint32", "math/bits.Add64", "sync/atomic.LoadInt32"], unfollowed := true, recurses := true, apart := false, narrowed := true }
def RecordShapesUptoSaid : Prop := recordShapesUptoRow.holds Tryz.pinned (OpenSpec.upto recordShapesSpec)

/-- 'escutcheonlaw13.RecordHeads', WHERE WHAT IT READS IS OF BULK AT MOST 1048576: true; the input reads as it did. -/
def recordHeadsUptoRow : OpenClaim := { program := "yticdbilkhkfopaagreat", sum := "6a0d7c8ebd505a2eda0bad6b0efdca708b2fb20384011630b41c1498f51d2bcd", func := "escutcheon/escutcheonlaw13.RecordHeads", spec := "recordHeads", inPlace := ["sync/atomic.LoadUint32", "(*internal/sync.Mutex).Lock", "internal/race.Disable", "sync/atomic.CompareAndSwapInt32", "internal/race.Enable", "internal/race.Acquire", "(*internal/sync.Mutex).lockSlow", "internal/sync.runtime_canSpin", "internal/sync.runtime_doSpin", "internal/sync.throw", "internal/sync.runtime_nanotime", "internal/sync.runtime_SemacquireMutex", "sync/atomic.AddInt32", "(*internal/sync.Mutex).Unlock", "internal/race.ReleaseMerge", "(*internal/sync.Mutex).unlockSlow", "internal/sync.fatal", "internal/sync.runtime_Semrelease", "sync/atomic.StoreUint32", "internal/abi.NoEscape", "internal/bytealg.MakeNoZero", "sync/atomic.LoadInt64", "sync/atomic.AddInt64", "sync/atomic.AddUint32", "math/bits.Add64", "sync/atomic.LoadInt32"], unfollowed := true, recurses := true, apart := false, narrowed := true }
def RecordHeadsUptoSaid : Prop := recordHeadsUptoRow.holds Tryz.pinned (OpenSpec.upto recordHeadsSpec)

/-- 'escutcheonlaw13.RecordRefuses', WHERE WHAT IT READS IS OF BULK AT MOST 1048576: true; the input reads as it did. -/
def recordRefusesUptoRow : OpenClaim := { program := "yticdbilkhkfopaagreat", sum := "6a0d7c8ebd505a2eda0bad6b0efdca708b2fb20384011630b41c1498f51d2bcd", func := "escutcheon/escutcheonlaw13.RecordRefuses", spec := "recordRefuses", inPlace := ["sync/atomic.LoadUint32", "(*internal/sync.Mutex).Lock", "internal/race.Disable", "sync/atomic.CompareAndSwapInt32", "internal/race.Enable", "internal/race.Acquire", "(*internal/sync.Mutex).lockSlow", "internal/sync.runtime_canSpin", "internal/sync.runtime_doSpin", "internal/sync.throw", "internal/sync.runtime_nanotime", "internal/sync.runtime_SemacquireMutex", "sync/atomic.AddInt32", "(*internal/sync.Mutex).Unlock", "internal/race.ReleaseMerge", "(*internal/sync.Mutex).unlockSlow", "internal/sync.fatal", "internal/sync.runtime_Semrelease", "sync/atomic.StoreUint32", "internal/abi.NoEscape", "internal/bytealg.MakeNoZero", "sync/atomic.LoadInt64", "sync/atomic.AddInt64", "sync/atomic.AddUint32", "math/bits.Add64", "sync/atomic.LoadInt32"], unfollowed := true, recurses := true, apart := false, narrowed := true }
def RecordRefusesUptoSaid : Prop := recordRefusesUptoRow.holds Tryz.pinned (OpenSpec.upto recordRefusesSpec)

/-- 'escutcheonlaw13.RecordTwo', WHERE WHAT IT READS IS OF BULK AT MOST 1048576: true; the input reads as it did. -/
def recordTwoUptoRow : OpenClaim := { program := "yticdbilkhkfopaagreat", sum := "6a0d7c8ebd505a2eda0bad6b0efdca708b2fb20384011630b41c1498f51d2bcd", func := "escutcheon/escutcheonlaw13.RecordTwo", spec := "recordTwo", inPlace := ["sync/atomic.LoadUint32", "(*internal/sync.Mutex).Lock", "internal/race.Disable", "sync/atomic.CompareAndSwapInt32", "internal/race.Enable", "internal/race.Acquire", "(*internal/sync.Mutex).lockSlow", "internal/sync.runtime_canSpin", "internal/sync.runtime_doSpin", "internal/sync.throw", "internal/sync.runtime_nanotime", "internal/sync.runtime_SemacquireMutex", "sync/atomic.AddInt32", "(*internal/sync.Mutex).Unlock", "internal/race.ReleaseMerge", "(*internal/sync.Mutex).unlockSlow", "internal/sync.fatal", "internal/sync.runtime_Semrelease", "sync/atomic.StoreUint32", "internal/abi.NoEscape", "internal/bytealg.MakeNoZero", "sync/atomic.LoadInt64", "sync/atomic.AddInt64", "sync/atomic.AddUint32", "math/bits.Add64", "sync/atomic.LoadInt32"], unfollowed := true, recurses := true, apart := false, narrowed := true }
def RecordTwoUptoSaid : Prop := recordTwoUptoRow.holds Tryz.pinned (OpenSpec.upto recordTwoSpec)

/-- 'escutcheonlaw13.RecordPlays', WHERE WHAT IT READS IS OF BULK AT MOST 1048576: true; the input reads as it did. -/
def recordPlaysUptoRow : OpenClaim := { program := "yticdbilkhkfopaagreat", sum := "6a0d7c8ebd505a2eda0bad6b0efdca708b2fb20384011630b41c1498f51d2bcd", func := "escutcheon/escutcheonlaw13.RecordPlays", spec := "recordPlays", inPlace := ["sync/atomic.LoadUint32", "(*internal/sync.Mutex).Lock", "internal/race.Disable", "sync/atomic.CompareAndSwapInt32", "internal/race.Enable", "internal/race.Acquire", "(*internal/sync.Mutex).lockSlow", "internal/sync.runtime_canSpin", "internal/sync.runtime_doSpin", "internal/sync.throw", "internal/sync.runtime_nanotime", "internal/sync.runtime_SemacquireMutex", "sync/atomic.AddInt32", "(*internal/sync.Mutex).Unlock", "internal/race.ReleaseMerge", "(*internal/sync.Mutex).unlockSlow", "internal/sync.fatal", "internal/sync.runtime_Semrelease", "sync/atomic.StoreUint32", "internal/abi.NoEscape", "internal/bytealg.MakeNoZero", "sync/atomic.LoadInt64", "sync/atomic.AddInt64", "sync/atomic.AddUint32", "math/bits.Add64", "sync/atomic.LoadInt32"], unfollowed := true, recurses := true, apart := false, narrowed := true }
def RecordPlaysUptoSaid : Prop := recordPlaysUptoRow.holds Tryz.pinned (OpenSpec.upto recordPlaysSpec)

/-- 'escutcheonlaw13.RecordOrder', WHERE WHAT IT READS IS OF BULK AT MOST 1048576: true; the input reads as it did. -/
def recordOrderUptoRow : OpenClaim := { program := "yticdbilkhkfopaagreat", sum := "6a0d7c8ebd505a2eda0bad6b0efdca708b2fb20384011630b41c1498f51d2bcd", func := "escutcheon/escutcheonlaw13.RecordOrder", spec := "recordOrder", inPlace := ["sync/atomic.LoadUint32", "(*internal/sync.Mutex).Lock", "internal/race.Disable", "sync/atomic.CompareAndSwapInt32", "internal/race.Enable", "internal/race.Acquire", "(*internal/sync.Mutex).lockSlow", "internal/sync.runtime_canSpin", "internal/sync.runtime_doSpin", "internal/sync.throw", "internal/sync.runtime_nanotime", "internal/sync.runtime_SemacquireMutex", "sync/atomic.AddInt32", "(*internal/sync.Mutex).Unlock", "internal/race.ReleaseMerge", "(*internal/sync.Mutex).unlockSlow", "internal/sync.fatal", "internal/sync.runtime_Semrelease", "sync/atomic.StoreUint32", "internal/abi.NoEscape", "internal/bytealg.MakeNoZero", "sync/atomic.LoadInt64", "sync/atomic.AddInt64", "sync/atomic.AddUint32", "math/bits.Add64", "sync/atomic.LoadInt32"], unfollowed := true, recurses := true, apart := false, narrowed := true }
def RecordOrderUptoSaid : Prop := recordOrderUptoRow.holds Tryz.pinned (OpenSpec.upto recordOrderSpec)

/-- 'escutcheonlaw13.RecordEpochs', WHERE WHAT IT READS IS OF BULK AT MOST 1048576: true; the input reads as it did. -/
def recordEpochsUptoRow : OpenClaim := { program := "yticdbilkhkfopaagreat", sum := "6a0d7c8ebd505a2eda0bad6b0efdca708b2fb20384011630b41c1498f51d2bcd", func := "escutcheon/escutcheonlaw13.RecordEpochs", spec := "recordEpochs", inPlace := ["sync/atomic.LoadUint32", "(*internal/sync.Mutex).Lock", "internal/race.Disable", "sync/atomic.CompareAndSwapInt32", "internal/race.Enable", "internal/race.Acquire", "(*internal/sync.Mutex).lockSlow", "internal/sync.runtime_canSpin", "internal/sync.runtime_doSpin", "internal/sync.throw", "internal/sync.runtime_nanotime", "internal/sync.runtime_SemacquireMutex", "sync/atomic.AddInt32", "(*internal/sync.Mutex).Unlock", "internal/race.ReleaseMerge", "(*internal/sync.Mutex).unlockSlow", "internal/sync.fatal", "internal/sync.runtime_Semrelease", "sync/atomic.StoreUint32", "internal/abi.NoEscape", "internal/bytealg.MakeNoZero", "sync/atomic.LoadInt64", "sync/atomic.AddInt64", "sync/atomic.AddUint32", "math/bits.Add64", "sync/atomic.LoadInt32"], unfollowed := true, recurses := true, apart := false, narrowed := true }
def RecordEpochsUptoSaid : Prop := recordEpochsUptoRow.holds Tryz.pinned (OpenSpec.upto recordEpochsSpec)

/-- 'escutcheonlaw13.RecordFar', WHERE WHAT IT READS IS OF BULK AT MOST 1048576: true; the input reads as it did. -/
def recordFarUptoRow : OpenClaim := { program := "yticdbilkhkfopaagreat", sum := "6a0d7c8ebd505a2eda0bad6b0efdca708b2fb20384011630b41c1498f51d2bcd", func := "escutcheon/escutcheonlaw13.RecordFar", spec := "recordFar", inPlace := ["sync/atomic.LoadUint32", "(*internal/sync.Mutex).Lock", "internal/race.Disable", "sync/atomic.CompareAndSwapInt32", "internal/race.Enable", "internal/race.Acquire", "(*internal/sync.Mutex).lockSlow", "internal/sync.runtime_canSpin", "internal/sync.runtime_doSpin", "internal/sync.throw", "internal/sync.runtime_nanotime", "internal/sync.runtime_SemacquireMutex", "sync/atomic.AddInt32", "(*internal/sync.Mutex).Unlock", "internal/race.ReleaseMerge", "(*internal/sync.Mutex).unlockSlow", "internal/sync.fatal", "internal/sync.runtime_Semrelease", "sync/atomic.StoreUint32", "internal/abi.NoEscape", "internal/bytealg.MakeNoZero", "sync/atomic.LoadInt64", "sync/atomic.AddInt64", "sync/atomic.AddUint32", "math/bits.Add64", "sync/atomic.LoadInt32"], unfollowed := true, recurses := true, apart := false, narrowed := true }
def RecordFarUptoSaid : Prop := recordFarUptoRow.holds Tryz.pinned (OpenSpec.upto recordFarSpec)

/-- 'escutcheonlaw13.RecordCross', WHERE WHAT IT READS IS OF BULK AT MOST 1048576: true; the input reads as it did. -/
def recordCrossUptoRow : OpenClaim := { program := "yticdbilkhkfopaagreat", sum := "6a0d7c8ebd505a2eda0bad6b0efdca708b2fb20384011630b41c1498f51d2bcd", func := "escutcheon/escutcheonlaw13.RecordCross", spec := "recordCross", inPlace := ["sync/atomic.LoadUint32", "(*internal/sync.Mutex).Lock", "internal/race.Disable", "sync/atomic.CompareAndSwapInt32", "internal/race.Enable", "internal/race.Acquire", "(*internal/sync.Mutex).lockSlow", "internal/sync.runtime_canSpin", "internal/sync.runtime_doSpin", "internal/sync.throw", "internal/sync.runtime_nanotime", "internal/sync.runtime_SemacquireMutex", "sync/atomic.AddInt32", "(*internal/sync.Mutex).Unlock", "internal/race.ReleaseMerge", "(*internal/sync.Mutex).unlockSlow", "internal/sync.fatal", "internal/sync.runtime_Semrelease", "sync/atomic.StoreUint32", "internal/abi.NoEscape", "internal/bytealg.MakeNoZero", "sync/atomic.LoadInt64", "sync/atomic.AddInt64", "sync/atomic.AddUint32", "math/bits.Add64", "sync/atomic.LoadInt32"], unfollowed := true, recurses := true, apart := false, narrowed := true }
def RecordCrossUptoSaid : Prop := recordCrossUptoRow.holds Tryz.pinned (OpenSpec.upto recordCrossSpec)

end Rows
end Go.Proofs.YticdbilkhkfopaaGreat
