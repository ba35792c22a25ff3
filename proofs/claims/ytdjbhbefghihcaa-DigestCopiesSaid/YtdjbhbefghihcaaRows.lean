/-
  No cell of these rows narrows 'for every input' (looked for: loops, veiled, ifaces, maps, wideKeys, modest, calm, conditions, laid).
  DERIVED. THE GIVEN ROWS OF THIS SEAT. 33 by the template 'for every input the law returns true; each argument reads behind the call as it read before'; 0 by the template 'total and deterministic' (their statements: YtdjbhbefghihcaaTotals.lean).
  GIVEN WITH THE SEED: the statements are not yours to turn. If you find one false, say at which input.
  Laid BY PROGRAM, IN A SANDBOX (cutbox-rows.mjs): the forced cells as the released guide's own fill.sh prints them over the translation 20d58a15da4564a2… (all of the seat's roots in one cut). By AI agents, Wed Nov 11 2026. No macro, syntax, notation, axiom, sorry.
-/
import Derived.Test.YtdjbhbefghihcaaChecked
import GoSem.Claim
import GoSem.ClaimJoined
import GoSem.ClaimMapViews
import Derived.JoinedTies
import Derived.KernelRfl
namespace Go.Proofs.Ytdjbhbefghihcaa
/- THE CELL 'sum', in the pinned program and in every row, IS THE sha256 OF THE DUMP (.gsa) THAT YtdjbhbefghihcaaProg.lean LOADS. Nothing in Lean hashes anything: it is a label: what it is worth is what the hold of that sum in a sandbox is worth. -/
noncomputable def Try.pinned : Pinned := { name := "ytdjbhbefghihcaa", sum := "20d58a15da4564a2b1dadb8d2b397fbec03539e0cd65e694551a56a66c458e7c", checked := Try.checked }
namespace Rows
def none {H : Type} : Left H := { results := [], args := [] }

/-- 'escutcheonlaw8.PadLengths': WHATEVER THE INPUT: true; the input reads as it did. -/
def padLengthsSpec : ChangeSpec := { name := "padLengths", fn := fun _ => fun
  | [d1, d2, d3, d4] => { results := [.lit (.bool true)], args := [d1, d2, d3, d4] }
  | _ => none }
def padLengthsRow : OpenClaim := { program := "ytdjbhbefghihcaa", sum := "20d58a15da4564a2b1dadb8d2b397fbec03539e0cd65e694551a56a66c458e7c", func := "escutcheon/escutcheonlaw8.PadLengths", spec := "padLengths", inPlace := ["sync/atomic.LoadUint32", "(*internal/sync.Mutex).Lock", "internal/race.Disable", "sync/atomic.CompareAndSwapInt32", "internal/race.Enable", "internal/race.Acquire", "(*internal/sync.Mutex).lockSlow", "internal/sync.runtime_canSpin", "internal/sync.runtime_doSpin", "internal/sync.throw", "internal/sync.runtime_nanotime", "internal/sync.runtime_SemacquireMutex", "sync/atomic.AddInt32", "(*internal/sync.Mutex).Unlock", "internal/race.ReleaseMerge", "(*internal/sync.Mutex).unlockSlow", "internal/sync.fatal", "internal/sync.runtime_Semrelease", "sync/atomic.StoreUint32", "internal/abi.NoEscape", "internal/bytealg.MakeNoZero"], unfollowed := true, recurses := true, apart := false }
def PadLengthsSaid : Prop := padLengthsRow.holds Try.pinned (OpenSpec.ofChange padLengthsSpec)

/-- ITS FALSE NEIGHBOUR: 'it returns false'. Refute it at one input. -/
def padLengthsWrong : ChangeSpec := { name := "padLengths", fn := fun _ => fun
  | [d1, d2, d3, d4] => { results := [.lit (.bool false)], args := [d1, d2, d3, d4] }
  | _ => none }
def PadLengthsWrongFalsely : Prop := padLengthsRow.holds Try.pinned (OpenSpec.ofChange padLengthsWrong)

/-- 'escutcheonlaw8.PadSizes': WHATEVER THE INPUT: true; the input reads as it did. -/
def padSizesSpec : ChangeSpec := { name := "padSizes", fn := fun _ => fun
  | [d1, d2] => { results := [.lit (.bool true)], args := [d1, d2] }
  | _ => none }
def padSizesRow : OpenClaim := { program := "ytdjbhbefghihcaa", sum := "20d58a15da4564a2b1dadb8d2b397fbec03539e0cd65e694551a56a66c458e7c", func := "escutcheon/escutcheonlaw8.PadSizes", spec := "padSizes", inPlace := ["sync/atomic.LoadUint32", "(*internal/sync.Mutex).Lock", "internal/race.Disable", "sync/atomic.CompareAndSwapInt32", "internal/race.Enable", "internal/race.Acquire", "(*internal/sync.Mutex).lockSlow", "internal/sync.runtime_canSpin", "internal/sync.runtime_doSpin", "internal/sync.throw", "internal/sync.runtime_nanotime", "internal/sync.runtime_SemacquireMutex", "sync/atomic.AddInt32", "(*internal/sync.Mutex).Unlock", "internal/race.ReleaseMerge", "(*internal/sync.Mutex).unlockSlow", "internal/sync.fatal", "internal/sync.runtime_Semrelease", "sync/atomic.StoreUint32", "internal/abi.NoEscape", "internal/bytealg.MakeNoZero"], unfollowed := true, recurses := true, apart := false }
def PadSizesSaid : Prop := padSizesRow.holds Try.pinned (OpenSpec.ofChange padSizesSpec)

/-- ITS FALSE NEIGHBOUR: 'it returns false'. Refute it at one input. -/
def padSizesWrong : ChangeSpec := { name := "padSizes", fn := fun _ => fun
  | [d1, d2] => { results := [.lit (.bool false)], args := [d1, d2] }
  | _ => none }
def PadSizesWrongFalsely : Prop := padSizesRow.holds Try.pinned (OpenSpec.ofChange padSizesWrong)

/-- 'escutcheonlaw8.PadOnly': WHATEVER THE INPUT: true; the input reads as it did. -/
def padOnlySpec : ChangeSpec := { name := "padOnly", fn := fun _ => fun
  | [d] => { results := [.lit (.bool true)], args := [d] }
  | _ => none }
def padOnlyRow : OpenClaim := { program := "ytdjbhbefghihcaa", sum := "20d58a15da4564a2b1dadb8d2b397fbec03539e0cd65e694551a56a66c458e7c", func := "escutcheon/escutcheonlaw8.PadOnly", spec := "padOnly", inPlace := ["sync/atomic.LoadUint32", "(*internal/sync.Mutex).Lock", "internal/race.Disable", "sync/atomic.CompareAndSwapInt32", "internal/race.Enable", "internal/race.Acquire", "(*internal/sync.Mutex).lockSlow", "internal/sync.runtime_canSpin", "internal/sync.runtime_doSpin", "internal/sync.throw", "internal/sync.runtime_nanotime", "internal/sync.runtime_SemacquireMutex", "sync/atomic.AddInt32", "(*internal/sync.Mutex).Unlock", "internal/race.ReleaseMerge", "(*internal/sync.Mutex).unlockSlow", "internal/sync.fatal", "internal/sync.runtime_Semrelease", "sync/atomic.StoreUint32", "internal/abi.NoEscape", "internal/bytealg.MakeNoZero"], unfollowed := true, recurses := true, apart := false }
def PadOnlySaid : Prop := padOnlyRow.holds Try.pinned (OpenSpec.ofChange padOnlySpec)

/-- ITS FALSE NEIGHBOUR: 'it returns false'. Refute it at one input. -/
def padOnlyWrong : ChangeSpec := { name := "padOnly", fn := fun _ => fun
  | [d] => { results := [.lit (.bool false)], args := [d] }
  | _ => none }
def PadOnlyWrongFalsely : Prop := padOnlyRow.holds Try.pinned (OpenSpec.ofChange padOnlyWrong)

/-- 'escutcheonlaw8.PadZeros': WHATEVER THE INPUT: true; the input reads as it did. -/
def padZerosSpec : ChangeSpec := { name := "padZeros", fn := fun _ => fun
  | [d] => { results := [.lit (.bool true)], args := [d] }
  | _ => none }
def padZerosRow : OpenClaim := { program := "ytdjbhbefghihcaa", sum := "20d58a15da4564a2b1dadb8d2b397fbec03539e0cd65e694551a56a66c458e7c", func := "escutcheon/escutcheonlaw8.PadZeros", spec := "padZeros", inPlace := ["sync/atomic.LoadUint32", "(*internal/sync.Mutex).Lock", "internal/race.Disable", "sync/atomic.CompareAndSwapInt32", "internal/race.Enable", "internal/race.Acquire", "(*internal/sync.Mutex).lockSlow", "internal/sync.runtime_canSpin", "internal/sync.runtime_doSpin", "internal/sync.throw", "internal/sync.runtime_nanotime", "internal/sync.runtime_SemacquireMutex", "sync/atomic.AddInt32", "(*internal/sync.Mutex).Unlock", "internal/race.ReleaseMerge", "(*internal/sync.Mutex).unlockSlow", "internal/sync.fatal", "internal/sync.runtime_Semrelease", "sync/atomic.StoreUint32", "internal/abi.NoEscape", "internal/bytealg.MakeNoZero"], unfollowed := true, recurses := true, apart := false }
def PadZerosSaid : Prop := padZerosRow.holds Try.pinned (OpenSpec.ofChange padZerosSpec)

/-- ITS FALSE NEIGHBOUR: 'it returns false'. Refute it at one input. -/
def padZerosWrong : ChangeSpec := { name := "padZeros", fn := fun _ => fun
  | [d] => { results := [.lit (.bool false)], args := [d] }
  | _ => none }
def PadZerosWrongFalsely : Prop := padZerosRow.holds Try.pinned (OpenSpec.ofChange padZerosWrong)

/-- 'escutcheonlaw2.DigestTells': WHATEVER THE INPUT: true; the input reads as it did. -/
def digestTellsSpec : ChangeSpec := { name := "digestTells", fn := fun _ => fun
  | [d] => { results := [.lit (.bool true)], args := [d] }
  | _ => none }
def digestTellsRow : OpenClaim := { program := "ytdjbhbefghihcaa", sum := "20d58a15da4564a2b1dadb8d2b397fbec03539e0cd65e694551a56a66c458e7c", func := "escutcheon/escutcheonlaw2.DigestTells", spec := "digestTells", inPlace := ["sync/atomic.LoadUint32", "(*internal/sync.Mutex).Lock", "internal/race.Disable", "sync/atomic.CompareAndSwapInt32", "internal/race.Enable", "internal/race.Acquire", "(*internal/sync.Mutex).lockSlow", "internal/sync.runtime_canSpin", "internal/sync.runtime_doSpin", "internal/sync.throw", "internal/sync.runtime_nanotime", "internal/sync.runtime_SemacquireMutex", "sync/atomic.AddInt32", "(*internal/sync.Mutex).Unlock", "internal/race.ReleaseMerge", "(*internal/sync.Mutex).unlockSlow", "internal/sync.fatal", "internal/sync.runtime_Semrelease", "sync/atomic.StoreUint32", "internal/abi.NoEscape", "internal/bytealg.MakeNoZero"], unfollowed := true, recurses := true, apart := false }
def DigestTellsSaid : Prop := digestTellsRow.holds Try.pinned (OpenSpec.ofChange digestTellsSpec)

/-- ITS FALSE NEIGHBOUR: 'it returns false'. Refute it at one input. -/
def digestTellsWrong : ChangeSpec := { name := "digestTells", fn := fun _ => fun
  | [d] => { results := [.lit (.bool false)], args := [d] }
  | _ => none }
def DigestTellsWrongFalsely : Prop := digestTellsRow.holds Try.pinned (OpenSpec.ofChange digestTellsWrong)

/-- 'escutcheonlaw2.DigestLong': WHATEVER THE INPUT: true; the input reads as it did. -/
def digestLongSpec : ChangeSpec := { name := "digestLong", fn := fun _ => fun
  | [d1, d2] => { results := [.lit (.bool true)], args := [d1, d2] }
  | _ => none }
def digestLongRow : OpenClaim := { program := "ytdjbhbefghihcaa", sum := "20d58a15da4564a2b1dadb8d2b397fbec03539e0cd65e694551a56a66c458e7c", func := "escutcheon/escutcheonlaw2.DigestLong", spec := "digestLong", inPlace := ["sync/atomic.LoadUint32", "(*internal/sync.Mutex).Lock", "internal/race.Disable", "sync/atomic.CompareAndSwapInt32", "internal/race.Enable", "internal/race.Acquire", "(*internal/sync.Mutex).lockSlow", "internal/sync.runtime_canSpin", "internal/sync.runtime_doSpin", "internal/sync.throw", "internal/sync.runtime_nanotime", "internal/sync.runtime_SemacquireMutex", "sync/atomic.AddInt32", "(*internal/sync.Mutex).Unlock", "internal/race.ReleaseMerge", "(*internal/sync.Mutex).unlockSlow", "internal/sync.fatal", "internal/sync.runtime_Semrelease", "sync/atomic.StoreUint32", "internal/abi.NoEscape", "internal/bytealg.MakeNoZero"], unfollowed := true, recurses := true, apart := false }
def DigestLongSaid : Prop := digestLongRow.holds Try.pinned (OpenSpec.ofChange digestLongSpec)

/-- ITS FALSE NEIGHBOUR: 'it returns false'. Refute it at one input. -/
def digestLongWrong : ChangeSpec := { name := "digestLong", fn := fun _ => fun
  | [d1, d2] => { results := [.lit (.bool false)], args := [d1, d2] }
  | _ => none }
def DigestLongWrongFalsely : Prop := digestLongRow.holds Try.pinned (OpenSpec.ofChange digestLongWrong)

/-- 'escutcheonlaw2.DigestApart': WHATEVER THE INPUT: true; the input reads as it did. -/
def digestApartSpec : ChangeSpec := { name := "digestApart", fn := fun _ => fun
  | [d1, d2] => { results := [.lit (.bool true)], args := [d1, d2] }
  | _ => none }
def digestApartRow : OpenClaim := { program := "ytdjbhbefghihcaa", sum := "20d58a15da4564a2b1dadb8d2b397fbec03539e0cd65e694551a56a66c458e7c", func := "escutcheon/escutcheonlaw2.DigestApart", spec := "digestApart", inPlace := ["sync/atomic.LoadUint32", "(*internal/sync.Mutex).Lock", "internal/race.Disable", "sync/atomic.CompareAndSwapInt32", "internal/race.Enable", "internal/race.Acquire", "(*internal/sync.Mutex).lockSlow", "internal/sync.runtime_canSpin", "internal/sync.runtime_doSpin", "internal/sync.throw", "internal/sync.runtime_nanotime", "internal/sync.runtime_SemacquireMutex", "sync/atomic.AddInt32", "(*internal/sync.Mutex).Unlock", "internal/race.ReleaseMerge", "(*internal/sync.Mutex).unlockSlow", "internal/sync.fatal", "internal/sync.runtime_Semrelease", "sync/atomic.StoreUint32", "internal/abi.NoEscape", "internal/bytealg.MakeNoZero"], unfollowed := true, recurses := true, apart := false }
def DigestApartSaid : Prop := digestApartRow.holds Try.pinned (OpenSpec.ofChange digestApartSpec)

/-- ITS FALSE NEIGHBOUR: 'it returns false'. Refute it at one input. -/
def digestApartWrong : ChangeSpec := { name := "digestApart", fn := fun _ => fun
  | [d1, d2] => { results := [.lit (.bool false)], args := [d1, d2] }
  | _ => none }
def DigestApartWrongFalsely : Prop := digestApartRow.holds Try.pinned (OpenSpec.ofChange digestApartWrong)

/-- 'escutcheonlaw2.DigestBlocks': WHATEVER THE INPUT: true; the input reads as it did. -/
def digestBlocksSpec : ChangeSpec := { name := "digestBlocks", fn := fun _ => fun
  | [d1, d2] => { results := [.lit (.bool true)], args := [d1, d2] }
  | _ => none }
def digestBlocksRow : OpenClaim := { program := "ytdjbhbefghihcaa", sum := "20d58a15da4564a2b1dadb8d2b397fbec03539e0cd65e694551a56a66c458e7c", func := "escutcheon/escutcheonlaw2.DigestBlocks", spec := "digestBlocks", inPlace := ["sync/atomic.LoadUint32", "(*internal/sync.Mutex).Lock", "internal/race.Disable", "sync/atomic.CompareAndSwapInt32", "internal/race.Enable", "internal/race.Acquire", "(*internal/sync.Mutex).lockSlow", "internal/sync.runtime_canSpin", "internal/sync.runtime_doSpin", "internal/sync.throw", "internal/sync.runtime_nanotime", "internal/sync.runtime_SemacquireMutex", "sync/atomic.AddInt32", "(*internal/sync.Mutex).Unlock", "internal/race.ReleaseMerge", "(*internal/sync.Mutex).unlockSlow", "internal/sync.fatal", "internal/sync.runtime_Semrelease", "sync/atomic.StoreUint32", "internal/abi.NoEscape", "internal/bytealg.MakeNoZero"], unfollowed := true, recurses := true, apart := false }
def DigestBlocksSaid : Prop := digestBlocksRow.holds Try.pinned (OpenSpec.ofChange digestBlocksSpec)

/-- ITS FALSE NEIGHBOUR: 'it returns false'. Refute it at one input. -/
def digestBlocksWrong : ChangeSpec := { name := "digestBlocks", fn := fun _ => fun
  | [d1, d2] => { results := [.lit (.bool false)], args := [d1, d2] }
  | _ => none }
def DigestBlocksWrongFalsely : Prop := digestBlocksRow.holds Try.pinned (OpenSpec.ofChange digestBlocksWrong)

/-- 'escutcheonlaw2.DigestNothing': WHATEVER THE INPUT: true; the input reads as it did. -/
def digestNothingSpec : ChangeSpec := { name := "digestNothing", fn := fun _ => fun
  | [d1, d2] => { results := [.lit (.bool true)], args := [d1, d2] }
  | _ => none }
def digestNothingRow : OpenClaim := { program := "ytdjbhbefghihcaa", sum := "20d58a15da4564a2b1dadb8d2b397fbec03539e0cd65e694551a56a66c458e7c", func := "escutcheon/escutcheonlaw2.DigestNothing", spec := "digestNothing", inPlace := ["sync/atomic.LoadUint32", "(*internal/sync.Mutex).Lock", "internal/race.Disable", "sync/atomic.CompareAndSwapInt32", "internal/race.Enable", "internal/race.Acquire", "(*internal/sync.Mutex).lockSlow", "internal/sync.runtime_canSpin", "internal/sync.runtime_doSpin", "internal/sync.throw", "internal/sync.runtime_nanotime", "internal/sync.runtime_SemacquireMutex", "sync/atomic.AddInt32", "(*internal/sync.Mutex).Unlock", "internal/race.ReleaseMerge", "(*internal/sync.Mutex).unlockSlow", "internal/sync.fatal", "internal/sync.runtime_Semrelease", "sync/atomic.StoreUint32", "internal/abi.NoEscape", "internal/bytealg.MakeNoZero"], unfollowed := true, recurses := true, apart := false }
def DigestNothingSaid : Prop := digestNothingRow.holds Try.pinned (OpenSpec.ofChange digestNothingSpec)

/-- ITS FALSE NEIGHBOUR: 'it returns false'. Refute it at one input. -/
def digestNothingWrong : ChangeSpec := { name := "digestNothing", fn := fun _ => fun
  | [d1, d2] => { results := [.lit (.bool false)], args := [d1, d2] }
  | _ => none }
def DigestNothingWrongFalsely : Prop := digestNothingRow.holds Try.pinned (OpenSpec.ofChange digestNothingWrong)

/-- 'escutcheonlaw2.DigestParts': WHATEVER THE INPUT: true; the input reads as it did. -/
def digestPartsSpec : ChangeSpec := { name := "digestParts", fn := fun _ => fun
  | [d1, d2] => { results := [.lit (.bool true)], args := [d1, d2] }
  | _ => none }
def digestPartsRow : OpenClaim := { program := "ytdjbhbefghihcaa", sum := "20d58a15da4564a2b1dadb8d2b397fbec03539e0cd65e694551a56a66c458e7c", func := "escutcheon/escutcheonlaw2.DigestParts", spec := "digestParts", inPlace := ["sync/atomic.LoadUint32", "(*internal/sync.Mutex).Lock", "internal/race.Disable", "sync/atomic.CompareAndSwapInt32", "internal/race.Enable", "internal/race.Acquire", "(*internal/sync.Mutex).lockSlow", "internal/sync.runtime_canSpin", "internal/sync.runtime_doSpin", "internal/sync.throw", "internal/sync.runtime_nanotime", "internal/sync.runtime_SemacquireMutex", "sync/atomic.AddInt32", "(*internal/sync.Mutex).Unlock", "internal/race.ReleaseMerge", "(*internal/sync.Mutex).unlockSlow", "internal/sync.fatal", "internal/sync.runtime_Semrelease", "sync/atomic.StoreUint32", "internal/abi.NoEscape", "internal/bytealg.MakeNoZero"], unfollowed := true, recurses := true, apart := false }
def DigestPartsSaid : Prop := digestPartsRow.holds Try.pinned (OpenSpec.ofChange digestPartsSpec)

/-- ITS FALSE NEIGHBOUR: 'it returns false'. Refute it at one input. -/
def digestPartsWrong : ChangeSpec := { name := "digestParts", fn := fun _ => fun
  | [d1, d2] => { results := [.lit (.bool false)], args := [d1, d2] }
  | _ => none }
def DigestPartsWrongFalsely : Prop := digestPartsRow.holds Try.pinned (OpenSpec.ofChange digestPartsWrong)

/-- 'escutcheonlaw2.DigestCopies': WHATEVER THE INPUT: true; the input reads as it did. -/
def digestCopiesSpec : ChangeSpec := { name := "digestCopies", fn := fun _ => fun
  | [d] => { results := [.lit (.bool true)], args := [d] }
  | _ => none }
def digestCopiesRow : OpenClaim := { program := "ytdjbhbefghihcaa", sum := "20d58a15da4564a2b1dadb8d2b397fbec03539e0cd65e694551a56a66c458e7c", func := "escutcheon/escutcheonlaw2.DigestCopies", spec := "digestCopies", inPlace := ["sync/atomic.LoadUint32", "(*internal/sync.Mutex).Lock", "internal/race.Disable", "sync/atomic.CompareAndSwapInt32", "internal/race.Enable", "internal/race.Acquire", "(*internal/sync.Mutex).lockSlow", "internal/sync.runtime_canSpin", "internal/sync.runtime_doSpin", "internal/sync.throw", "internal/sync.runtime_nanotime", "internal/sync.runtime_SemacquireMutex", "sync/atomic.AddInt32", "(*internal/sync.Mutex).Unlock", "internal/race.ReleaseMerge", "(*internal/sync.Mutex).unlockSlow", "internal/sync.fatal", "internal/sync.runtime_Semrelease", "sync/atomic.StoreUint32", "internal/abi.NoEscape", "internal/bytealg.MakeNoZero"], unfollowed := true, recurses := true, apart := false }
def DigestCopiesSaid : Prop := digestCopiesRow.holds Try.pinned (OpenSpec.ofChange digestCopiesSpec)

/-- ITS FALSE NEIGHBOUR: 'it returns false'. Refute it at one input. -/
def digestCopiesWrong : ChangeSpec := { name := "digestCopies", fn := fun _ => fun
  | [d] => { results := [.lit (.bool false)], args := [d] }
  | _ => none }
def DigestCopiesWrongFalsely : Prop := digestCopiesRow.holds Try.pinned (OpenSpec.ofChange digestCopiesWrong)

/-- 'escutcheonlaw7.BoxTells': WHATEVER THE INPUT: true; the input reads as it did. -/
def boxTellsSpec : ChangeSpec := { name := "boxTells", fn := fun _ => fun
  | [d1, d2, d3, d4, d5, d6] => { results := [.lit (.bool true)], args := [d1, d2, d3, d4, d5, d6] }
  | _ => none }
def boxTellsRow : OpenClaim := { program := "ytdjbhbefghihcaa", sum := "20d58a15da4564a2b1dadb8d2b397fbec03539e0cd65e694551a56a66c458e7c", func := "escutcheon/escutcheonlaw7.BoxTells", spec := "boxTells", inPlace := ["sync/atomic.StoreUint32", "sync/atomic.AddUint32", "internal/abi.NoEscape", "internal/bytealg.MakeNoZero", "math/bits.Add64", "sync/atomic.AddInt32", "sync/atomic.AddInt64", "sync/atomic.LoadInt64", "sync/atomic.LoadInt32"], apart := false }
def BoxTellsSaid : Prop := boxTellsRow.holds Try.pinned (OpenSpec.ofChange boxTellsSpec)

/-- ITS FALSE NEIGHBOUR: 'it returns false'. Refute it at one input. -/
def boxTellsWrong : ChangeSpec := { name := "boxTells", fn := fun _ => fun
  | [d1, d2, d3, d4, d5, d6] => { results := [.lit (.bool false)], args := [d1, d2, d3, d4, d5, d6] }
  | _ => none }
def BoxTellsWrongFalsely : Prop := boxTellsRow.holds Try.pinned (OpenSpec.ofChange boxTellsWrong)

/-- 'escutcheonlaw7.BoxTurned': WHATEVER THE INPUT: true; the input reads as it did. -/
def boxTurnedSpec : ChangeSpec := { name := "boxTurned", fn := fun _ => fun
  | [d1, d2, d3, d4, d5, d6, d7] => { results := [.lit (.bool true)], args := [d1, d2, d3, d4, d5, d6, d7] }
  | _ => none }
def boxTurnedRow : OpenClaim := { program := "ytdjbhbefghihcaa", sum := "20d58a15da4564a2b1dadb8d2b397fbec03539e0cd65e694551a56a66c458e7c", func := "escutcheon/escutcheonlaw7.BoxTurned", spec := "boxTurned", inPlace := ["sync/atomic.StoreUint32", "sync/atomic.AddUint32", "internal/abi.NoEscape", "internal/bytealg.MakeNoZero", "math/bits.Add64", "sync/atomic.AddInt32", "sync/atomic.AddInt64", "sync/atomic.LoadInt64", "sync/atomic.LoadInt32"], apart := false }
def BoxTurnedSaid : Prop := boxTurnedRow.holds Try.pinned (OpenSpec.ofChange boxTurnedSpec)

/-- ITS FALSE NEIGHBOUR: 'it returns false'. Refute it at one input. -/
def boxTurnedWrong : ChangeSpec := { name := "boxTurned", fn := fun _ => fun
  | [d1, d2, d3, d4, d5, d6, d7] => { results := [.lit (.bool false)], args := [d1, d2, d3, d4, d5, d6, d7] }
  | _ => none }
def BoxTurnedWrongFalsely : Prop := boxTurnedRow.holds Try.pinned (OpenSpec.ofChange boxTurnedWrong)

/-- 'escutcheonlaw7.BoxHides': WHATEVER THE INPUT: true; the input reads as it did. -/
def boxHidesSpec : ChangeSpec := { name := "boxHides", fn := fun _ => fun
  | [d1, d2, d3, d4] => { results := [.lit (.bool true)], args := [d1, d2, d3, d4] }
  | _ => none }
def boxHidesRow : OpenClaim := { program := "ytdjbhbefghihcaa", sum := "20d58a15da4564a2b1dadb8d2b397fbec03539e0cd65e694551a56a66c458e7c", func := "escutcheon/escutcheonlaw7.BoxHides", spec := "boxHides", inPlace := ["sync/atomic.StoreUint32", "sync/atomic.AddUint32", "internal/abi.NoEscape", "internal/bytealg.MakeNoZero", "math/bits.Add64", "sync/atomic.AddInt32", "sync/atomic.AddInt64", "sync/atomic.LoadInt64", "sync/atomic.LoadInt32"], apart := false }
def BoxHidesSaid : Prop := boxHidesRow.holds Try.pinned (OpenSpec.ofChange boxHidesSpec)

/-- ITS FALSE NEIGHBOUR: 'it returns false'. Refute it at one input. -/
def boxHidesWrong : ChangeSpec := { name := "boxHides", fn := fun _ => fun
  | [d1, d2, d3, d4] => { results := [.lit (.bool false)], args := [d1, d2, d3, d4] }
  | _ => none }
def BoxHidesWrongFalsely : Prop := boxHidesRow.holds Try.pinned (OpenSpec.ofChange boxHidesWrong)

/-- 'escutcheonlaw7.BoxMore': WHATEVER THE INPUT: true; the input reads as it did. -/
def boxMoreSpec : ChangeSpec := { name := "boxMore", fn := fun _ => fun
  | [d1, d2, d3, d4, d5] => { results := [.lit (.bool true)], args := [d1, d2, d3, d4, d5] }
  | _ => none }
def boxMoreRow : OpenClaim := { program := "ytdjbhbefghihcaa", sum := "20d58a15da4564a2b1dadb8d2b397fbec03539e0cd65e694551a56a66c458e7c", func := "escutcheon/escutcheonlaw7.BoxMore", spec := "boxMore", inPlace := ["sync/atomic.StoreUint32", "sync/atomic.AddUint32", "internal/abi.NoEscape", "internal/bytealg.MakeNoZero", "math/bits.Add64", "sync/atomic.AddInt32", "sync/atomic.AddInt64", "sync/atomic.LoadInt64", "sync/atomic.LoadInt32"], apart := false }
def BoxMoreSaid : Prop := boxMoreRow.holds Try.pinned (OpenSpec.ofChange boxMoreSpec)

/-- ITS FALSE NEIGHBOUR: 'it returns false'. Refute it at one input. -/
def boxMoreWrong : ChangeSpec := { name := "boxMore", fn := fun _ => fun
  | [d1, d2, d3, d4, d5] => { results := [.lit (.bool false)], args := [d1, d2, d3, d4, d5] }
  | _ => none }
def BoxMoreWrongFalsely : Prop := boxMoreRow.holds Try.pinned (OpenSpec.ofChange boxMoreWrong)

/-- 'escutcheonlaw7.BoxKeys': WHATEVER THE INPUT: true; the input reads as it did. -/
def boxKeysSpec : ChangeSpec := { name := "boxKeys", fn := fun _ => fun
  | [d1, d2, d3, d4, d5] => { results := [.lit (.bool true)], args := [d1, d2, d3, d4, d5] }
  | _ => none }
def boxKeysRow : OpenClaim := { program := "ytdjbhbefghihcaa", sum := "20d58a15da4564a2b1dadb8d2b397fbec03539e0cd65e694551a56a66c458e7c", func := "escutcheon/escutcheonlaw7.BoxKeys", spec := "boxKeys", inPlace := ["sync/atomic.StoreUint32", "sync/atomic.AddUint32", "internal/abi.NoEscape", "internal/bytealg.MakeNoZero", "math/bits.Add64", "sync/atomic.AddInt32", "sync/atomic.AddInt64", "sync/atomic.LoadInt64", "sync/atomic.LoadInt32"], apart := false }
def BoxKeysSaid : Prop := boxKeysRow.holds Try.pinned (OpenSpec.ofChange boxKeysSpec)

/-- ITS FALSE NEIGHBOUR: 'it returns false'. Refute it at one input. -/
def boxKeysWrong : ChangeSpec := { name := "boxKeys", fn := fun _ => fun
  | [d1, d2, d3, d4, d5] => { results := [.lit (.bool false)], args := [d1, d2, d3, d4, d5] }
  | _ => none }
def BoxKeysWrongFalsely : Prop := boxKeysRow.holds Try.pinned (OpenSpec.ofChange boxKeysWrong)

/-- 'escutcheonlaw7.BoxEmpty': WHATEVER THE INPUT: true; the input reads as it did. -/
def boxEmptySpec : ChangeSpec := { name := "boxEmpty", fn := fun _ => fun
  | [d1, d2, d3, d4] => { results := [.lit (.bool true)], args := [d1, d2, d3, d4] }
  | _ => none }
def boxEmptyRow : OpenClaim := { program := "ytdjbhbefghihcaa", sum := "20d58a15da4564a2b1dadb8d2b397fbec03539e0cd65e694551a56a66c458e7c", func := "escutcheon/escutcheonlaw7.BoxEmpty", spec := "boxEmpty", inPlace := ["sync/atomic.StoreUint32", "sync/atomic.AddUint32", "internal/abi.NoEscape", "internal/bytealg.MakeNoZero", "math/bits.Add64", "sync/atomic.AddInt32", "sync/atomic.AddInt64", "sync/atomic.LoadInt64", "sync/atomic.LoadInt32"], apart := false }
def BoxEmptySaid : Prop := boxEmptyRow.holds Try.pinned (OpenSpec.ofChange boxEmptySpec)

/-- ITS FALSE NEIGHBOUR: 'it returns false'. Refute it at one input. -/
def boxEmptyWrong : ChangeSpec := { name := "boxEmpty", fn := fun _ => fun
  | [d1, d2, d3, d4] => { results := [.lit (.bool false)], args := [d1, d2, d3, d4] }
  | _ => none }
def BoxEmptyWrongFalsely : Prop := boxEmptyRow.holds Try.pinned (OpenSpec.ofChange boxEmptyWrong)

/-- 'escutcheonlaw4.DeriveTells': WHATEVER THE INPUT: true; the input reads as it did. -/
def deriveTellsSpec : ChangeSpec := { name := "deriveTells", fn := fun _ => fun
  | [d1, d2, d3, d4] => { results := [.lit (.bool true)], args := [d1, d2, d3, d4] }
  | _ => none }
def deriveTellsRow : OpenClaim := { program := "ytdjbhbefghihcaa", sum := "20d58a15da4564a2b1dadb8d2b397fbec03539e0cd65e694551a56a66c458e7c", func := "escutcheon/escutcheonlaw4.DeriveTells", spec := "deriveTells", inPlace := ["sync/atomic.LoadUint32", "(*internal/sync.Mutex).Lock", "internal/race.Disable", "sync/atomic.CompareAndSwapInt32", "internal/race.Enable", "internal/race.Acquire", "(*internal/sync.Mutex).lockSlow", "internal/sync.runtime_canSpin", "internal/sync.runtime_doSpin", "internal/sync.throw", "internal/sync.runtime_nanotime", "internal/sync.runtime_SemacquireMutex", "sync/atomic.AddInt32", "(*internal/sync.Mutex).Unlock", "internal/race.ReleaseMerge", "(*internal/sync.Mutex).unlockSlow", "internal/sync.fatal", "internal/sync.runtime_Semrelease", "sync/atomic.StoreUint32", "internal/abi.NoEscape", "internal/bytealg.MakeNoZero"], unfollowed := true, recurses := true, apart := false }
def DeriveTellsSaid : Prop := deriveTellsRow.holds Try.pinned (OpenSpec.ofChange deriveTellsSpec)

/-- ITS FALSE NEIGHBOUR: 'it returns false'. Refute it at one input. -/
def deriveTellsWrong : ChangeSpec := { name := "deriveTells", fn := fun _ => fun
  | [d1, d2, d3, d4] => { results := [.lit (.bool false)], args := [d1, d2, d3, d4] }
  | _ => none }
def DeriveTellsWrongFalsely : Prop := deriveTellsRow.holds Try.pinned (OpenSpec.ofChange deriveTellsWrong)

/-- 'escutcheonlaw4.DeriveLong': WHATEVER THE INPUT: true; the input reads as it did. -/
def deriveLongSpec : ChangeSpec := { name := "deriveLong", fn := fun _ => fun
  | [d1, d2, d3, d4] => { results := [.lit (.bool true)], args := [d1, d2, d3, d4] }
  | _ => none }
def deriveLongRow : OpenClaim := { program := "ytdjbhbefghihcaa", sum := "20d58a15da4564a2b1dadb8d2b397fbec03539e0cd65e694551a56a66c458e7c", func := "escutcheon/escutcheonlaw4.DeriveLong", spec := "deriveLong", inPlace := ["sync/atomic.LoadUint32", "(*internal/sync.Mutex).Lock", "internal/race.Disable", "sync/atomic.CompareAndSwapInt32", "internal/race.Enable", "internal/race.Acquire", "(*internal/sync.Mutex).lockSlow", "internal/sync.runtime_canSpin", "internal/sync.runtime_doSpin", "internal/sync.throw", "internal/sync.runtime_nanotime", "internal/sync.runtime_SemacquireMutex", "sync/atomic.AddInt32", "(*internal/sync.Mutex).Unlock", "internal/race.ReleaseMerge", "(*internal/sync.Mutex).unlockSlow", "internal/sync.fatal", "internal/sync.runtime_Semrelease", "sync/atomic.StoreUint32", "internal/abi.NoEscape", "internal/bytealg.MakeNoZero"], unfollowed := true, recurses := true, apart := false }
def DeriveLongSaid : Prop := deriveLongRow.holds Try.pinned (OpenSpec.ofChange deriveLongSpec)

/-- ITS FALSE NEIGHBOUR: 'it returns false'. Refute it at one input. -/
def deriveLongWrong : ChangeSpec := { name := "deriveLong", fn := fun _ => fun
  | [d1, d2, d3, d4] => { results := [.lit (.bool false)], args := [d1, d2, d3, d4] }
  | _ => none }
def DeriveLongWrongFalsely : Prop := deriveLongRow.holds Try.pinned (OpenSpec.ofChange deriveLongWrong)

/-- 'escutcheonlaw4.DeriveSalt': WHATEVER THE INPUT: true; the input reads as it did. -/
def deriveSaltSpec : ChangeSpec := { name := "deriveSalt", fn := fun _ => fun
  | [d1, d2, d3] => { results := [.lit (.bool true)], args := [d1, d2, d3] }
  | _ => none }
def deriveSaltRow : OpenClaim := { program := "ytdjbhbefghihcaa", sum := "20d58a15da4564a2b1dadb8d2b397fbec03539e0cd65e694551a56a66c458e7c", func := "escutcheon/escutcheonlaw4.DeriveSalt", spec := "deriveSalt", inPlace := ["sync/atomic.LoadUint32", "(*internal/sync.Mutex).Lock", "internal/race.Disable", "sync/atomic.CompareAndSwapInt32", "internal/race.Enable", "internal/race.Acquire", "(*internal/sync.Mutex).lockSlow", "internal/sync.runtime_canSpin", "internal/sync.runtime_doSpin", "internal/sync.throw", "internal/sync.runtime_nanotime", "internal/sync.runtime_SemacquireMutex", "sync/atomic.AddInt32", "(*internal/sync.Mutex).Unlock", "internal/race.ReleaseMerge", "(*internal/sync.Mutex).unlockSlow", "internal/sync.fatal", "internal/sync.runtime_Semrelease", "sync/atomic.StoreUint32", "internal/abi.NoEscape", "internal/bytealg.MakeNoZero"], unfollowed := true, recurses := true, apart := false }
def DeriveSaltSaid : Prop := deriveSaltRow.holds Try.pinned (OpenSpec.ofChange deriveSaltSpec)

/-- ITS FALSE NEIGHBOUR: 'it returns false'. Refute it at one input. -/
def deriveSaltWrong : ChangeSpec := { name := "deriveSalt", fn := fun _ => fun
  | [d1, d2, d3] => { results := [.lit (.bool false)], args := [d1, d2, d3] }
  | _ => none }
def DeriveSaltWrongFalsely : Prop := deriveSaltRow.holds Try.pinned (OpenSpec.ofChange deriveSaltWrong)

/-- 'escutcheonlaw4.DeriveBlocks': WHATEVER THE INPUT: true; the input reads as it did. -/
def deriveBlocksSpec : ChangeSpec := { name := "deriveBlocks", fn := fun _ => fun
  | [d1, d2] => { results := [.lit (.bool true)], args := [d1, d2] }
  | _ => none }
def deriveBlocksRow : OpenClaim := { program := "ytdjbhbefghihcaa", sum := "20d58a15da4564a2b1dadb8d2b397fbec03539e0cd65e694551a56a66c458e7c", func := "escutcheon/escutcheonlaw4.DeriveBlocks", spec := "deriveBlocks", inPlace := ["sync/atomic.LoadUint32", "(*internal/sync.Mutex).Lock", "internal/race.Disable", "sync/atomic.CompareAndSwapInt32", "internal/race.Enable", "internal/race.Acquire", "(*internal/sync.Mutex).lockSlow", "internal/sync.runtime_canSpin", "internal/sync.runtime_doSpin", "internal/sync.throw", "internal/sync.runtime_nanotime", "internal/sync.runtime_SemacquireMutex", "sync/atomic.AddInt32", "(*internal/sync.Mutex).Unlock", "internal/race.ReleaseMerge", "(*internal/sync.Mutex).unlockSlow", "internal/sync.fatal", "internal/sync.runtime_Semrelease", "sync/atomic.StoreUint32", "internal/abi.NoEscape", "internal/bytealg.MakeNoZero"], unfollowed := true, recurses := true, apart := false }
def DeriveBlocksSaid : Prop := deriveBlocksRow.holds Try.pinned (OpenSpec.ofChange deriveBlocksSpec)

/-- ITS FALSE NEIGHBOUR: 'it returns false'. Refute it at one input. -/
def deriveBlocksWrong : ChangeSpec := { name := "deriveBlocks", fn := fun _ => fun
  | [d1, d2] => { results := [.lit (.bool false)], args := [d1, d2] }
  | _ => none }
def DeriveBlocksWrongFalsely : Prop := deriveBlocksRow.holds Try.pinned (OpenSpec.ofChange deriveBlocksWrong)

/-- 'escutcheonlaw4.DeriveInfos': WHATEVER THE INPUT: true; the input reads as it did. -/
def deriveInfosSpec : ChangeSpec := { name := "deriveInfos", fn := fun _ => fun
  | [d1, d2, d3, d4] => { results := [.lit (.bool true)], args := [d1, d2, d3, d4] }
  | _ => none }
def deriveInfosRow : OpenClaim := { program := "ytdjbhbefghihcaa", sum := "20d58a15da4564a2b1dadb8d2b397fbec03539e0cd65e694551a56a66c458e7c", func := "escutcheon/escutcheonlaw4.DeriveInfos", spec := "deriveInfos", inPlace := ["sync/atomic.LoadUint32", "(*internal/sync.Mutex).Lock", "internal/race.Disable", "sync/atomic.CompareAndSwapInt32", "internal/race.Enable", "internal/race.Acquire", "(*internal/sync.Mutex).lockSlow", "internal/sync.runtime_canSpin", "internal/sync.runtime_doSpin", "internal/sync.throw", "internal/sync.runtime_nanotime", "internal/sync.runtime_SemacquireMutex", "sync/atomic.AddInt32", "(*internal/sync.Mutex).Unlock", "internal/race.ReleaseMerge", "(*internal/sync.Mutex).unlockSlow", "internal/sync.fatal", "internal/sync.runtime_Semrelease", "sync/atomic.StoreUint32", "internal/abi.NoEscape", "internal/bytealg.MakeNoZero"], unfollowed := true, recurses := true, apart := false }
def DeriveInfosSaid : Prop := deriveInfosRow.holds Try.pinned (OpenSpec.ofChange deriveInfosSpec)

/-- ITS FALSE NEIGHBOUR: 'it returns false'. Refute it at one input. -/
def deriveInfosWrong : ChangeSpec := { name := "deriveInfos", fn := fun _ => fun
  | [d1, d2, d3, d4] => { results := [.lit (.bool false)], args := [d1, d2, d3, d4] }
  | _ => none }
def DeriveInfosWrongFalsely : Prop := deriveInfosRow.holds Try.pinned (OpenSpec.ofChange deriveInfosWrong)

/-- 'escutcheonlaw3.MacKeys': WHATEVER THE INPUT: true; the input reads as it did. -/
def macKeysSpec : ChangeSpec := { name := "macKeys", fn := fun _ => fun
  | [d1, d2, d3] => { results := [.lit (.bool true)], args := [d1, d2, d3] }
  | _ => none }
def macKeysRow : OpenClaim := { program := "ytdjbhbefghihcaa", sum := "20d58a15da4564a2b1dadb8d2b397fbec03539e0cd65e694551a56a66c458e7c", func := "escutcheon/escutcheonlaw3.MacKeys", spec := "macKeys", inPlace := ["sync/atomic.LoadUint32", "(*internal/sync.Mutex).Lock", "internal/race.Disable", "sync/atomic.CompareAndSwapInt32", "internal/race.Enable", "internal/race.Acquire", "(*internal/sync.Mutex).lockSlow", "internal/sync.runtime_canSpin", "internal/sync.runtime_doSpin", "internal/sync.throw", "internal/sync.runtime_nanotime", "internal/sync.runtime_SemacquireMutex", "sync/atomic.AddInt32", "(*internal/sync.Mutex).Unlock", "internal/race.ReleaseMerge", "(*internal/sync.Mutex).unlockSlow", "internal/sync.fatal", "internal/sync.runtime_Semrelease", "sync/atomic.StoreUint32", "internal/abi.NoEscape", "internal/bytealg.MakeNoZero", "sync/atomic.AddInt64", "sync/atomic.LoadInt64"], unfollowed := true, recurses := true, apart := false }
def MacKeysSaid : Prop := macKeysRow.holds Try.pinned (OpenSpec.ofChange macKeysSpec)

/-- ITS FALSE NEIGHBOUR: 'it returns false'. Refute it at one input. -/
def macKeysWrong : ChangeSpec := { name := "macKeys", fn := fun _ => fun
  | [d1, d2, d3] => { results := [.lit (.bool false)], args := [d1, d2, d3] }
  | _ => none }
def MacKeysWrongFalsely : Prop := macKeysRow.holds Try.pinned (OpenSpec.ofChange macKeysWrong)

/-- 'escutcheonlaw3.MacSames': WHATEVER THE INPUT: true; the input reads as it did. -/
def macSamesSpec : ChangeSpec := { name := "macSames", fn := fun _ => fun
  | [d1, d2] => { results := [.lit (.bool true)], args := [d1, d2] }
  | _ => none }
def macSamesRow : OpenClaim := { program := "ytdjbhbefghihcaa", sum := "20d58a15da4564a2b1dadb8d2b397fbec03539e0cd65e694551a56a66c458e7c", func := "escutcheon/escutcheonlaw3.MacSames", spec := "macSames", inPlace := ["sync/atomic.LoadUint32", "(*internal/sync.Mutex).Lock", "internal/race.Disable", "sync/atomic.CompareAndSwapInt32", "internal/race.Enable", "internal/race.Acquire", "(*internal/sync.Mutex).lockSlow", "internal/sync.runtime_canSpin", "internal/sync.runtime_doSpin", "internal/sync.throw", "internal/sync.runtime_nanotime", "internal/sync.runtime_SemacquireMutex", "sync/atomic.AddInt32", "(*internal/sync.Mutex).Unlock", "internal/race.ReleaseMerge", "(*internal/sync.Mutex).unlockSlow", "internal/sync.fatal", "internal/sync.runtime_Semrelease", "sync/atomic.StoreUint32", "internal/abi.NoEscape", "internal/bytealg.MakeNoZero", "sync/atomic.AddInt64", "sync/atomic.LoadInt64"], unfollowed := true, recurses := true, apart := false }
def MacSamesSaid : Prop := macSamesRow.holds Try.pinned (OpenSpec.ofChange macSamesSpec)

/-- ITS FALSE NEIGHBOUR: 'it returns false'. Refute it at one input. -/
def macSamesWrong : ChangeSpec := { name := "macSames", fn := fun _ => fun
  | [d1, d2] => { results := [.lit (.bool false)], args := [d1, d2] }
  | _ => none }
def MacSamesWrongFalsely : Prop := macSamesRow.holds Try.pinned (OpenSpec.ofChange macSamesWrong)

/-- 'escutcheonlaw3.MacInside': WHATEVER THE INPUT: true; the input reads as it did. -/
def macInsideSpec : ChangeSpec := { name := "macInside", fn := fun _ => fun
  | [d1, d2] => { results := [.lit (.bool true)], args := [d1, d2] }
  | _ => none }
def macInsideRow : OpenClaim := { program := "ytdjbhbefghihcaa", sum := "20d58a15da4564a2b1dadb8d2b397fbec03539e0cd65e694551a56a66c458e7c", func := "escutcheon/escutcheonlaw3.MacInside", spec := "macInside", inPlace := ["sync/atomic.LoadUint32", "(*internal/sync.Mutex).Lock", "internal/race.Disable", "sync/atomic.CompareAndSwapInt32", "internal/race.Enable", "internal/race.Acquire", "(*internal/sync.Mutex).lockSlow", "internal/sync.runtime_canSpin", "internal/sync.runtime_doSpin", "internal/sync.throw", "internal/sync.runtime_nanotime", "internal/sync.runtime_SemacquireMutex", "sync/atomic.AddInt32", "(*internal/sync.Mutex).Unlock", "internal/race.ReleaseMerge", "(*internal/sync.Mutex).unlockSlow", "internal/sync.fatal", "internal/sync.runtime_Semrelease", "sync/atomic.StoreUint32", "internal/abi.NoEscape", "internal/bytealg.MakeNoZero", "sync/atomic.AddInt64", "sync/atomic.LoadInt64"], unfollowed := true, recurses := true, apart := false }
def MacInsideSaid : Prop := macInsideRow.holds Try.pinned (OpenSpec.ofChange macInsideSpec)

/-- ITS FALSE NEIGHBOUR: 'it returns false'. Refute it at one input. -/
def macInsideWrong : ChangeSpec := { name := "macInside", fn := fun _ => fun
  | [d1, d2] => { results := [.lit (.bool false)], args := [d1, d2] }
  | _ => none }
def MacInsideWrongFalsely : Prop := macInsideRow.holds Try.pinned (OpenSpec.ofChange macInsideWrong)

/-- 'escutcheonlaw3.MacTells': WHATEVER THE INPUT: true; the input reads as it did. -/
def macTellsSpec : ChangeSpec := { name := "macTells", fn := fun _ => fun
  | [d1, d2, d3, d4] => { results := [.lit (.bool true)], args := [d1, d2, d3, d4] }
  | _ => none }
def macTellsRow : OpenClaim := { program := "ytdjbhbefghihcaa", sum := "20d58a15da4564a2b1dadb8d2b397fbec03539e0cd65e694551a56a66c458e7c", func := "escutcheon/escutcheonlaw3.MacTells", spec := "macTells", inPlace := ["sync/atomic.LoadUint32", "(*internal/sync.Mutex).Lock", "internal/race.Disable", "sync/atomic.CompareAndSwapInt32", "internal/race.Enable", "internal/race.Acquire", "(*internal/sync.Mutex).lockSlow", "internal/sync.runtime_canSpin", "internal/sync.runtime_doSpin", "internal/sync.throw", "internal/sync.runtime_nanotime", "internal/sync.runtime_SemacquireMutex", "sync/atomic.AddInt32", "(*internal/sync.Mutex).Unlock", "internal/race.ReleaseMerge", "(*internal/sync.Mutex).unlockSlow", "internal/sync.fatal", "internal/sync.runtime_Semrelease", "sync/atomic.StoreUint32", "internal/abi.NoEscape", "internal/bytealg.MakeNoZero", "sync/atomic.AddInt64", "sync/atomic.LoadInt64"], unfollowed := true, recurses := true, apart := false }
def MacTellsSaid : Prop := macTellsRow.holds Try.pinned (OpenSpec.ofChange macTellsSpec)

/-- ITS FALSE NEIGHBOUR: 'it returns false'. Refute it at one input. -/
def macTellsWrong : ChangeSpec := { name := "macTells", fn := fun _ => fun
  | [d1, d2, d3, d4] => { results := [.lit (.bool false)], args := [d1, d2, d3, d4] }
  | _ => none }
def MacTellsWrongFalsely : Prop := macTellsRow.holds Try.pinned (OpenSpec.ofChange macTellsWrong)

/-- 'escutcheonlaw3.MacTurned': WHATEVER THE INPUT: true; the input reads as it did. -/
def macTurnedSpec : ChangeSpec := { name := "macTurned", fn := fun _ => fun
  | [d1, d2, d3, d4] => { results := [.lit (.bool true)], args := [d1, d2, d3, d4] }
  | _ => none }
def macTurnedRow : OpenClaim := { program := "ytdjbhbefghihcaa", sum := "20d58a15da4564a2b1dadb8d2b397fbec03539e0cd65e694551a56a66c458e7c", func := "escutcheon/escutcheonlaw3.MacTurned", spec := "macTurned", inPlace := ["sync/atomic.LoadUint32", "(*internal/sync.Mutex).Lock", "internal/race.Disable", "sync/atomic.CompareAndSwapInt32", "internal/race.Enable", "internal/race.Acquire", "(*internal/sync.Mutex).lockSlow", "internal/sync.runtime_canSpin", "internal/sync.runtime_doSpin", "internal/sync.throw", "internal/sync.runtime_nanotime", "internal/sync.runtime_SemacquireMutex", "sync/atomic.AddInt32", "(*internal/sync.Mutex).Unlock", "internal/race.ReleaseMerge", "(*internal/sync.Mutex).unlockSlow", "internal/sync.fatal", "internal/sync.runtime_Semrelease", "sync/atomic.StoreUint32", "internal/abi.NoEscape", "internal/bytealg.MakeNoZero", "sync/atomic.AddInt64", "sync/atomic.LoadInt64"], unfollowed := true, recurses := true, apart := false }
def MacTurnedSaid : Prop := macTurnedRow.holds Try.pinned (OpenSpec.ofChange macTurnedSpec)

/-- ITS FALSE NEIGHBOUR: 'it returns false'. Refute it at one input. -/
def macTurnedWrong : ChangeSpec := { name := "macTurned", fn := fun _ => fun
  | [d1, d2, d3, d4] => { results := [.lit (.bool false)], args := [d1, d2, d3, d4] }
  | _ => none }
def MacTurnedWrongFalsely : Prop := macTurnedRow.holds Try.pinned (OpenSpec.ofChange macTurnedWrong)

/-- 'escutcheonlaw12.RatchetApart': WHATEVER THE INPUT: true; the input reads as it did. -/
def ratchetApartSpec : ChangeSpec := { name := "ratchetApart", fn := fun _ => fun
  | [d1, d2] => { results := [.lit (.bool true)], args := [d1, d2] }
  | _ => none }
def ratchetApartRow : OpenClaim := { program := "ytdjbhbefghihcaa", sum := "20d58a15da4564a2b1dadb8d2b397fbec03539e0cd65e694551a56a66c458e7c", func := "escutcheon/escutcheonlaw12.RatchetApart", spec := "ratchetApart", inPlace := ["sync/atomic.LoadInt64", "sync/atomic.LoadUint32", "(*internal/sync.Mutex).Lock", "internal/race.Disable", "sync/atomic.CompareAndSwapInt32", "internal/race.Enable", "internal/race.Acquire", "(*internal/sync.Mutex).lockSlow", "internal/sync.runtime_canSpin", "internal/sync.runtime_doSpin", "internal/sync.throw", "internal/sync.runtime_nanotime", "internal/sync.runtime_SemacquireMutex", "sync/atomic.AddInt32", "(*internal/sync.Mutex).Unlock", "internal/race.ReleaseMerge", "(*internal/sync.Mutex).unlockSlow", "internal/sync.fatal", "internal/sync.runtime_Semrelease", "sync/atomic.StoreUint32", "internal/abi.NoEscape", "internal/bytealg.MakeNoZero", "sync/atomic.AddInt64"], unfollowed := true, recurses := true, apart := false }
def RatchetApartSaid : Prop := ratchetApartRow.holds Try.pinned (OpenSpec.ofChange ratchetApartSpec)

/-- ITS FALSE NEIGHBOUR: 'it returns false'. Refute it at one input. -/
def ratchetApartWrong : ChangeSpec := { name := "ratchetApart", fn := fun _ => fun
  | [d1, d2] => { results := [.lit (.bool false)], args := [d1, d2] }
  | _ => none }
def RatchetApartWrongFalsely : Prop := ratchetApartRow.holds Try.pinned (OpenSpec.ofChange ratchetApartWrong)

/-- 'escutcheonlaw12.RatchetSteps': WHATEVER THE INPUT: true; the input reads as it did. -/
def ratchetStepsSpec : ChangeSpec := { name := "ratchetSteps", fn := fun _ => fun
  | [d1, d2, d3] => { results := [.lit (.bool true)], args := [d1, d2, d3] }
  | _ => none }
def ratchetStepsRow : OpenClaim := { program := "ytdjbhbefghihcaa", sum := "20d58a15da4564a2b1dadb8d2b397fbec03539e0cd65e694551a56a66c458e7c", func := "escutcheon/escutcheonlaw12.RatchetSteps", spec := "ratchetSteps", inPlace := ["sync/atomic.LoadInt64", "sync/atomic.LoadUint32", "(*internal/sync.Mutex).Lock", "internal/race.Disable", "sync/atomic.CompareAndSwapInt32", "internal/race.Enable", "internal/race.Acquire", "(*internal/sync.Mutex).lockSlow", "internal/sync.runtime_canSpin", "internal/sync.runtime_doSpin", "internal/sync.throw", "internal/sync.runtime_nanotime", "internal/sync.runtime_SemacquireMutex", "sync/atomic.AddInt32", "(*internal/sync.Mutex).Unlock", "internal/race.ReleaseMerge", "(*internal/sync.Mutex).unlockSlow", "internal/sync.fatal", "internal/sync.runtime_Semrelease", "sync/atomic.StoreUint32", "internal/abi.NoEscape", "internal/bytealg.MakeNoZero", "sync/atomic.AddInt64"], unfollowed := true, recurses := true, apart := false }
def RatchetStepsSaid : Prop := ratchetStepsRow.holds Try.pinned (OpenSpec.ofChange ratchetStepsSpec)

/-- ITS FALSE NEIGHBOUR: 'it returns false'. Refute it at one input. -/
def ratchetStepsWrong : ChangeSpec := { name := "ratchetSteps", fn := fun _ => fun
  | [d1, d2, d3] => { results := [.lit (.bool false)], args := [d1, d2, d3] }
  | _ => none }
def RatchetStepsWrongFalsely : Prop := ratchetStepsRow.holds Try.pinned (OpenSpec.ofChange ratchetStepsWrong)

/-- 'escutcheonlaw12.RatchetNonces': WHATEVER THE INPUT: true; the input reads as it did. -/
def ratchetNoncesSpec : ChangeSpec := { name := "ratchetNonces", fn := fun _ => fun
  | [d1, d2] => { results := [.lit (.bool true)], args := [d1, d2] }
  | _ => none }
def ratchetNoncesRow : OpenClaim := { program := "ytdjbhbefghihcaa", sum := "20d58a15da4564a2b1dadb8d2b397fbec03539e0cd65e694551a56a66c458e7c", func := "escutcheon/escutcheonlaw12.RatchetNonces", spec := "ratchetNonces", inPlace := ["sync/atomic.LoadInt64", "sync/atomic.LoadUint32", "(*internal/sync.Mutex).Lock", "internal/race.Disable", "sync/atomic.CompareAndSwapInt32", "internal/race.Enable", "internal/race.Acquire", "(*internal/sync.Mutex).lockSlow", "internal/sync.runtime_canSpin", "internal/sync.runtime_doSpin", "internal/sync.throw", "internal/sync.runtime_nanotime", "internal/sync.runtime_SemacquireMutex", "sync/atomic.AddInt32", "(*internal/sync.Mutex).Unlock", "internal/race.ReleaseMerge", "(*internal/sync.Mutex).unlockSlow", "internal/sync.fatal", "internal/sync.runtime_Semrelease", "sync/atomic.StoreUint32", "internal/abi.NoEscape", "internal/bytealg.MakeNoZero", "sync/atomic.AddInt64"], unfollowed := true, recurses := true, apart := false }
def RatchetNoncesSaid : Prop := ratchetNoncesRow.holds Try.pinned (OpenSpec.ofChange ratchetNoncesSpec)

/-- ITS FALSE NEIGHBOUR: 'it returns false'. Refute it at one input. -/
def ratchetNoncesWrong : ChangeSpec := { name := "ratchetNonces", fn := fun _ => fun
  | [d1, d2] => { results := [.lit (.bool false)], args := [d1, d2] }
  | _ => none }
def RatchetNoncesWrongFalsely : Prop := ratchetNoncesRow.holds Try.pinned (OpenSpec.ofChange ratchetNoncesWrong)

/-- 'escutcheonlaw12.RatchetEpochs': WHATEVER THE INPUT: true; the input reads as it did. -/
def ratchetEpochsSpec : ChangeSpec := { name := "ratchetEpochs", fn := fun _ => fun
  | [d] => { results := [.lit (.bool true)], args := [d] }
  | _ => none }
def ratchetEpochsRow : OpenClaim := { program := "ytdjbhbefghihcaa", sum := "20d58a15da4564a2b1dadb8d2b397fbec03539e0cd65e694551a56a66c458e7c", func := "escutcheon/escutcheonlaw12.RatchetEpochs", spec := "ratchetEpochs", inPlace := ["sync/atomic.LoadInt64", "sync/atomic.LoadUint32", "(*internal/sync.Mutex).Lock", "internal/race.Disable", "sync/atomic.CompareAndSwapInt32", "internal/race.Enable", "internal/race.Acquire", "(*internal/sync.Mutex).lockSlow", "internal/sync.runtime_canSpin", "internal/sync.runtime_doSpin", "internal/sync.throw", "internal/sync.runtime_nanotime", "internal/sync.runtime_SemacquireMutex", "sync/atomic.AddInt32", "(*internal/sync.Mutex).Unlock", "internal/race.ReleaseMerge", "(*internal/sync.Mutex).unlockSlow", "internal/sync.fatal", "internal/sync.runtime_Semrelease", "sync/atomic.StoreUint32", "internal/abi.NoEscape", "internal/bytealg.MakeNoZero", "sync/atomic.AddInt64"], unfollowed := true, recurses := true, apart := false }
def RatchetEpochsSaid : Prop := ratchetEpochsRow.holds Try.pinned (OpenSpec.ofChange ratchetEpochsSpec)

/-- ITS FALSE NEIGHBOUR: 'it returns false'. Refute it at one input. -/
def ratchetEpochsWrong : ChangeSpec := { name := "ratchetEpochs", fn := fun _ => fun
  | [d] => { results := [.lit (.bool false)], args := [d] }
  | _ => none }
def RatchetEpochsWrongFalsely : Prop := ratchetEpochsRow.holds Try.pinned (OpenSpec.ofChange ratchetEpochsWrong)

/-- 'escutcheonlaw12.RatchetTells': WHATEVER THE INPUT: true; the input reads as it did. -/
def ratchetTellsSpec : ChangeSpec := { name := "ratchetTells", fn := fun _ => fun
  | [d1, d2, d3, d4, d5] => { results := [.lit (.bool true)], args := [d1, d2, d3, d4, d5] }
  | _ => none }
def ratchetTellsRow : OpenClaim := { program := "ytdjbhbefghihcaa", sum := "20d58a15da4564a2b1dadb8d2b397fbec03539e0cd65e694551a56a66c458e7c", func := "escutcheon/escutcheonlaw12.RatchetTells", spec := "ratchetTells", inPlace := ["sync/atomic.LoadInt64", "sync/atomic.LoadUint32", "(*internal/sync.Mutex).Lock", "internal/race.Disable", "sync/atomic.CompareAndSwapInt32", "internal/race.Enable", "internal/race.Acquire", "(*internal/sync.Mutex).lockSlow", "internal/sync.runtime_canSpin", "internal/sync.runtime_doSpin", "internal/sync.throw", "internal/sync.runtime_nanotime", "internal/sync.runtime_SemacquireMutex", "sync/atomic.AddInt32", "(*internal/sync.Mutex).Unlock", "internal/race.ReleaseMerge", "(*internal/sync.Mutex).unlockSlow", "internal/sync.fatal", "internal/sync.runtime_Semrelease", "sync/atomic.StoreUint32", "internal/abi.NoEscape", "internal/bytealg.MakeNoZero", "sync/atomic.AddInt64"], unfollowed := true, recurses := true, apart := false }
def RatchetTellsSaid : Prop := ratchetTellsRow.holds Try.pinned (OpenSpec.ofChange ratchetTellsSpec)

/-- ITS FALSE NEIGHBOUR: 'it returns false'. Refute it at one input. -/
def ratchetTellsWrong : ChangeSpec := { name := "ratchetTells", fn := fun _ => fun
  | [d1, d2, d3, d4, d5] => { results := [.lit (.bool false)], args := [d1, d2, d3, d4, d5] }
  | _ => none }
def RatchetTellsWrongFalsely : Prop := ratchetTellsRow.holds Try.pinned (OpenSpec.ofChange ratchetTellsWrong)

/-- 'escutcheonlaw12.RatchetSessions': WHATEVER THE INPUT: true; the input reads as it did. -/
def ratchetSessionsSpec : ChangeSpec := { name := "ratchetSessions", fn := fun _ => fun
  | [d1, d2] => { results := [.lit (.bool true)], args := [d1, d2] }
  | _ => none }
def ratchetSessionsRow : OpenClaim := { program := "ytdjbhbefghihcaa", sum := "20d58a15da4564a2b1dadb8d2b397fbec03539e0cd65e694551a56a66c458e7c", func := "escutcheon/escutcheonlaw12.RatchetSessions", spec := "ratchetSessions", inPlace := ["sync/atomic.LoadInt64", "sync/atomic.LoadUint32", "(*internal/sync.Mutex).Lock", "internal/race.Disable", "sync/atomic.CompareAndSwapInt32", "internal/race.Enable", "internal/race.Acquire", "(*internal/sync.Mutex).lockSlow", "internal/sync.runtime_canSpin", "internal/sync.runtime_doSpin", "internal/sync.throw", "internal/sync.runtime_nanotime", "internal/sync.runtime_SemacquireMutex", "sync/atomic.AddInt32", "(*internal/sync.Mutex).Unlock", "internal/race.ReleaseMerge", "(*internal/sync.Mutex).unlockSlow", "internal/sync.fatal", "internal/sync.runtime_Semrelease", "sync/atomic.StoreUint32", "internal/abi.NoEscape", "internal/bytealg.MakeNoZero", "sync/atomic.AddInt64"], unfollowed := true, recurses := true, apart := false }
def RatchetSessionsSaid : Prop := ratchetSessionsRow.holds Try.pinned (OpenSpec.ofChange ratchetSessionsSpec)

/-- ITS FALSE NEIGHBOUR: 'it returns false'. Refute it at one input. -/
def ratchetSessionsWrong : ChangeSpec := { name := "ratchetSessions", fn := fun _ => fun
  | [d1, d2] => { results := [.lit (.bool false)], args := [d1, d2] }
  | _ => none }
def RatchetSessionsWrongFalsely : Prop := ratchetSessionsRow.holds Try.pinned (OpenSpec.ofChange ratchetSessionsWrong)

/- THE SECOND FORM. 'bulk': how many values and letters a reading holds, each counted each time it is reached (what is shared counts as often as it is met; a slice's spare places count too). A statement '..UptoSaid' is the law's where the arguments, and the package variables that the reading takes, are together of bulk at most 1048576: NARROWER than '..Said'. Prove '..Said' where nothing that the law and all that it calls make is longer than what came in: it says more and counts as full. Else prove '..UptoSaid'. A law counts once. -/
mutual
def uptoBulk {H : Type} : DataW H → Nat
  | .lit (.string bytes) => bytes.length + 1
  | .lit _ => 1
  | .nil => 1
  | .ptr d => uptoBulk d + 1
  | .slice elems spare => uptoBulkAll elems + uptoBulkAll spare + 1
  | .agg parts => uptoBulkAll parts + 1
  | .iface _ d => uptoBulk d + 1
  | .map entries => uptoBulkEntries entries + 1
  | .held _ => 1
def uptoBulkAll {H : Type} : List (DataW H) → Nat
  | [] => 0
  | d :: r => uptoBulk d + uptoBulkAll r
def uptoBulkEntries {H : Type} : List (Lit × DataW H) → Nat
  | [] => 0
  | x :: r => uptoBulkEntry x + uptoBulkEntries r
def uptoBulkEntry {H : Type} : Lit × DataW H → Nat
  | (.string bytes, d) => bytes.length + uptoBulk d + 1
  | (_, d) => uptoBulk d + 1
 end
def uptoSmall : (H : Type) → List (DataW H) → Bool := fun _ ds => decide (uptoBulkAll ds ≤ 1048576)
def OpenSpec.upto (s : _root_.Go.ChangeSpec) : _root_.Go.OpenSpec := { _root_.Go.OpenSpec.ofChange s with cond := some uptoSmall }

/-- 'escutcheonlaw8.PadLengths', WHERE WHAT IT READS IS OF BULK AT MOST 1048576: true; the input reads as it did. -/
def padLengthsUptoRow : OpenClaim := { program := "ytdjbhbefghihcaa", sum := "20d58a15da4564a2b1dadb8d2b397fbec03539e0cd65e694551a56a66c458e7c", func := "escutcheon/escutcheonlaw8.PadLengths", spec := "padLengths", inPlace := ["sync/atomic.LoadUint32", "(*internal/sync.Mutex).Lock", "internal/race.Disable", "sync/atomic.CompareAndSwapInt32", "internal/race.Enable", "internal/race.Acquire", "(*internal/sync.Mutex).lockSlow", "internal/sync.runtime_canSpin", "internal/sync.runtime_doSpin", "internal/sync.throw", "internal/sync.runtime_nanotime", "internal/sync.runtime_SemacquireMutex", "sync/atomic.AddInt32", "(*internal/sync.Mutex).Unlock", "internal/race.ReleaseMerge", "(*internal/sync.Mutex).unlockSlow", "internal/sync.fatal", "internal/sync.runtime_Semrelease", "sync/atomic.StoreUint32", "internal/abi.NoEscape", "internal/bytealg.MakeNoZero"], unfollowed := true, recurses := true, apart := false, narrowed := true }
def PadLengthsUptoSaid : Prop := padLengthsUptoRow.holds Try.pinned (OpenSpec.upto padLengthsSpec)

/-- 'escutcheonlaw8.PadSizes', WHERE WHAT IT READS IS OF BULK AT MOST 1048576: true; the input reads as it did. -/
def padSizesUptoRow : OpenClaim := { program := "ytdjbhbefghihcaa", sum := "20d58a15da4564a2b1dadb8d2b397fbec03539e0cd65e694551a56a66c458e7c", func := "escutcheon/escutcheonlaw8.PadSizes", spec := "padSizes", inPlace := ["sync/atomic.LoadUint32", "(*internal/sync.Mutex).Lock", "internal/race.Disable", "sync/atomic.CompareAndSwapInt32", "internal/race.Enable", "internal/race.Acquire", "(*internal/sync.Mutex).lockSlow", "internal/sync.runtime_canSpin", "internal/sync.runtime_doSpin", "internal/sync.throw", "internal/sync.runtime_nanotime", "internal/sync.runtime_SemacquireMutex", "sync/atomic.AddInt32", "(*internal/sync.Mutex).Unlock", "internal/race.ReleaseMerge", "(*internal/sync.Mutex).unlockSlow", "internal/sync.fatal", "internal/sync.runtime_Semrelease", "sync/atomic.StoreUint32", "internal/abi.NoEscape", "internal/bytealg.MakeNoZero"], unfollowed := true, recurses := true, apart := false, narrowed := true }
def PadSizesUptoSaid : Prop := padSizesUptoRow.holds Try.pinned (OpenSpec.upto padSizesSpec)

/-- 'escutcheonlaw8.PadOnly', WHERE WHAT IT READS IS OF BULK AT MOST 1048576: true; the input reads as it did. -/
def padOnlyUptoRow : OpenClaim := { program := "ytdjbhbefghihcaa", sum := "20d58a15da4564a2b1dadb8d2b397fbec03539e0cd65e694551a56a66c458e7c", func := "escutcheon/escutcheonlaw8.PadOnly", spec := "padOnly", inPlace := ["sync/atomic.LoadUint32", "(*internal/sync.Mutex).Lock", "internal/race.Disable", "sync/atomic.CompareAndSwapInt32", "internal/race.Enable", "internal/race.Acquire", "(*internal/sync.Mutex).lockSlow", "internal/sync.runtime_canSpin", "internal/sync.runtime_doSpin", "internal/sync.throw", "internal/sync.runtime_nanotime", "internal/sync.runtime_SemacquireMutex", "sync/atomic.AddInt32", "(*internal/sync.Mutex).Unlock", "internal/race.ReleaseMerge", "(*internal/sync.Mutex).unlockSlow", "internal/sync.fatal", "internal/sync.runtime_Semrelease", "sync/atomic.StoreUint32", "internal/abi.NoEscape", "internal/bytealg.MakeNoZero"], unfollowed := true, recurses := true, apart := false, narrowed := true }
def PadOnlyUptoSaid : Prop := padOnlyUptoRow.holds Try.pinned (OpenSpec.upto padOnlySpec)

/-- 'escutcheonlaw8.PadZeros', WHERE WHAT IT READS IS OF BULK AT MOST 1048576: true; the input reads as it did. -/
def padZerosUptoRow : OpenClaim := { program := "ytdjbhbefghihcaa", sum := "20d58a15da4564a2b1dadb8d2b397fbec03539e0cd65e694551a56a66c458e7c", func := "escutcheon/escutcheonlaw8.PadZeros", spec := "padZeros", inPlace := ["sync/atomic.LoadUint32", "(*internal/sync.Mutex).Lock", "internal/race.Disable", "sync/atomic.CompareAndSwapInt32", "internal/race.Enable", "internal/race.Acquire", "(*internal/sync.Mutex).lockSlow", "internal/sync.runtime_canSpin", "internal/sync.runtime_doSpin", "internal/sync.throw", "internal/sync.runtime_nanotime", "internal/sync.runtime_SemacquireMutex", "sync/atomic.AddInt32", "(*internal/sync.Mutex).Unlock", "internal/race.ReleaseMerge", "(*internal/sync.Mutex).unlockSlow", "internal/sync.fatal", "internal/sync.runtime_Semrelease", "sync/atomic.StoreUint32", "internal/abi.NoEscape", "internal/bytealg.MakeNoZero"], unfollowed := true, recurses := true, apart := false, narrowed := true }
def PadZerosUptoSaid : Prop := padZerosUptoRow.holds Try.pinned (OpenSpec.upto padZerosSpec)

/-- 'escutcheonlaw2.DigestTells', WHERE WHAT IT READS IS OF BULK AT MOST 1048576: true; the input reads as it did. -/
def digestTellsUptoRow : OpenClaim := { program := "ytdjbhbefghihcaa", sum := "20d58a15da4564a2b1dadb8d2b397fbec03539e0cd65e694551a56a66c458e7c", func := "escutcheon/escutcheonlaw2.DigestTells", spec := "digestTells", inPlace := ["sync/atomic.LoadUint32", "(*internal/sync.Mutex).Lock", "internal/race.Disable", "sync/atomic.CompareAndSwapInt32", "internal/race.Enable", "internal/race.Acquire", "(*internal/sync.Mutex).lockSlow", "internal/sync.runtime_canSpin", "internal/sync.runtime_doSpin", "internal/sync.throw", "internal/sync.runtime_nanotime", "internal/sync.runtime_SemacquireMutex", "sync/atomic.AddInt32", "(*internal/sync.Mutex).Unlock", "internal/race.ReleaseMerge", "(*internal/sync.Mutex).unlockSlow", "internal/sync.fatal", "internal/sync.runtime_Semrelease", "sync/atomic.StoreUint32", "internal/abi.NoEscape", "internal/bytealg.MakeNoZero"], unfollowed := true, recurses := true, apart := false, narrowed := true }
def DigestTellsUptoSaid : Prop := digestTellsUptoRow.holds Try.pinned (OpenSpec.upto digestTellsSpec)

/-- 'escutcheonlaw2.DigestLong', WHERE WHAT IT READS IS OF BULK AT MOST 1048576: true; the input reads as it did. -/
def digestLongUptoRow : OpenClaim := { program := "ytdjbhbefghihcaa", sum := "20d58a15da4564a2b1dadb8d2b397fbec03539e0cd65e694551a56a66c458e7c", func := "escutcheon/escutcheonlaw2.DigestLong", spec := "digestLong", inPlace := ["sync/atomic.LoadUint32", "(*internal/sync.Mutex).Lock", "internal/race.Disable", "sync/atomic.CompareAndSwapInt32", "internal/race.Enable", "internal/race.Acquire", "(*internal/sync.Mutex).lockSlow", "internal/sync.runtime_canSpin", "internal/sync.runtime_doSpin", "internal/sync.throw", "internal/sync.runtime_nanotime", "internal/sync.runtime_SemacquireMutex", "sync/atomic.AddInt32", "(*internal/sync.Mutex).Unlock", "internal/race.ReleaseMerge", "(*internal/sync.Mutex).unlockSlow", "internal/sync.fatal", "internal/sync.runtime_Semrelease", "sync/atomic.StoreUint32", "internal/abi.NoEscape", "internal/bytealg.MakeNoZero"], unfollowed := true, recurses := true, apart := false, narrowed := true }
def DigestLongUptoSaid : Prop := digestLongUptoRow.holds Try.pinned (OpenSpec.upto digestLongSpec)

/-- 'escutcheonlaw2.DigestApart', WHERE WHAT IT READS IS OF BULK AT MOST 1048576: true; the input reads as it did. -/
def digestApartUptoRow : OpenClaim := { program := "ytdjbhbefghihcaa", sum := "20d58a15da4564a2b1dadb8d2b397fbec03539e0cd65e694551a56a66c458e7c", func := "escutcheon/escutcheonlaw2.DigestApart", spec := "digestApart", inPlace := ["sync/atomic.LoadUint32", "(*internal/sync.Mutex).Lock", "internal/race.Disable", "sync/atomic.CompareAndSwapInt32", "internal/race.Enable", "internal/race.Acquire", "(*internal/sync.Mutex).lockSlow", "internal/sync.runtime_canSpin", "internal/sync.runtime_doSpin", "internal/sync.throw", "internal/sync.runtime_nanotime", "internal/sync.runtime_SemacquireMutex", "sync/atomic.AddInt32", "(*internal/sync.Mutex).Unlock", "internal/race.ReleaseMerge", "(*internal/sync.Mutex).unlockSlow", "internal/sync.fatal", "internal/sync.runtime_Semrelease", "sync/atomic.StoreUint32", "internal/abi.NoEscape", "internal/bytealg.MakeNoZero"], unfollowed := true, recurses := true, apart := false, narrowed := true }
def DigestApartUptoSaid : Prop := digestApartUptoRow.holds Try.pinned (OpenSpec.upto digestApartSpec)

/-- 'escutcheonlaw2.DigestBlocks', WHERE WHAT IT READS IS OF BULK AT MOST 1048576: true; the input reads as it did. -/
def digestBlocksUptoRow : OpenClaim := { program := "ytdjbhbefghihcaa", sum := "20d58a15da4564a2b1dadb8d2b397fbec03539e0cd65e694551a56a66c458e7c", func := "escutcheon/escutcheonlaw2.DigestBlocks", spec := "digestBlocks", inPlace := ["sync/atomic.LoadUint32", "(*internal/sync.Mutex).Lock", "internal/race.Disable", "sync/atomic.CompareAndSwapInt32", "internal/race.Enable", "internal/race.Acquire", "(*internal/sync.Mutex).lockSlow", "internal/sync.runtime_canSpin", "internal/sync.runtime_doSpin", "internal/sync.throw", "internal/sync.runtime_nanotime", "internal/sync.runtime_SemacquireMutex", "sync/atomic.AddInt32", "(*internal/sync.Mutex).Unlock", "internal/race.ReleaseMerge", "(*internal/sync.Mutex).unlockSlow", "internal/sync.fatal", "internal/sync.runtime_Semrelease", "sync/atomic.StoreUint32", "internal/abi.NoEscape", "internal/bytealg.MakeNoZero"], unfollowed := true, recurses := true, apart := false, narrowed := true }
def DigestBlocksUptoSaid : Prop := digestBlocksUptoRow.holds Try.pinned (OpenSpec.upto digestBlocksSpec)

/-- 'escutcheonlaw2.DigestNothing', WHERE WHAT IT READS IS OF BULK AT MOST 1048576: true; the input reads as it did. -/
def digestNothingUptoRow : OpenClaim := { program := "ytdjbhbefghihcaa", sum := "20d58a15da4564a2b1dadb8d2b397fbec03539e0cd65e694551a56a66c458e7c", func := "escutcheon/escutcheonlaw2.DigestNothing", spec := "digestNothing", inPlace := ["sync/atomic.LoadUint32", "(*internal/sync.Mutex).Lock", "internal/race.Disable", "sync/atomic.CompareAndSwapInt32", "internal/race.Enable", "internal/race.Acquire", "(*internal/sync.Mutex).lockSlow", "internal/sync.runtime_canSpin", "internal/sync.runtime_doSpin", "internal/sync.throw", "internal/sync.runtime_nanotime", "internal/sync.runtime_SemacquireMutex", "sync/atomic.AddInt32", "(*internal/sync.Mutex).Unlock", "internal/race.ReleaseMerge", "(*internal/sync.Mutex).unlockSlow", "internal/sync.fatal", "internal/sync.runtime_Semrelease", "sync/atomic.StoreUint32", "internal/abi.NoEscape", "internal/bytealg.MakeNoZero"], unfollowed := true, recurses := true, apart := false, narrowed := true }
def DigestNothingUptoSaid : Prop := digestNothingUptoRow.holds Try.pinned (OpenSpec.upto digestNothingSpec)

/-- 'escutcheonlaw2.DigestParts', WHERE WHAT IT READS IS OF BULK AT MOST 1048576: true; the input reads as it did. -/
def digestPartsUptoRow : OpenClaim := { program := "ytdjbhbefghihcaa", sum := "20d58a15da4564a2b1dadb8d2b397fbec03539e0cd65e694551a56a66c458e7c", func := "escutcheon/escutcheonlaw2.DigestParts", spec := "digestParts", inPlace := ["sync/atomic.LoadUint32", "(*internal/sync.Mutex).Lock", "internal/race.Disable", "sync/atomic.CompareAndSwapInt32", "internal/race.Enable", "internal/race.Acquire", "(*internal/sync.Mutex).lockSlow", "internal/sync.runtime_canSpin", "internal/sync.runtime_doSpin", "internal/sync.throw", "internal/sync.runtime_nanotime", "internal/sync.runtime_SemacquireMutex", "sync/atomic.AddInt32", "(*internal/sync.Mutex).Unlock", "internal/race.ReleaseMerge", "(*internal/sync.Mutex).unlockSlow", "internal/sync.fatal", "internal/sync.runtime_Semrelease", "sync/atomic.StoreUint32", "internal/abi.NoEscape", "internal/bytealg.MakeNoZero"], unfollowed := true, recurses := true, apart := false, narrowed := true }
def DigestPartsUptoSaid : Prop := digestPartsUptoRow.holds Try.pinned (OpenSpec.upto digestPartsSpec)

/-- 'escutcheonlaw2.DigestCopies', WHERE WHAT IT READS IS OF BULK AT MOST 1048576: true; the input reads as it did. -/
def digestCopiesUptoRow : OpenClaim := { program := "ytdjbhbefghihcaa", sum := "20d58a15da4564a2b1dadb8d2b397fbec03539e0cd65e694551a56a66c458e7c", func := "escutcheon/escutcheonlaw2.DigestCopies", spec := "digestCopies", inPlace := ["sync/atomic.LoadUint32", "(*internal/sync.Mutex).Lock", "internal/race.Disable", "sync/atomic.CompareAndSwapInt32", "internal/race.Enable", "internal/race.Acquire", "(*internal/sync.Mutex).lockSlow", "internal/sync.runtime_canSpin", "internal/sync.runtime_doSpin", "internal/sync.throw", "internal/sync.runtime_nanotime", "internal/sync.runtime_SemacquireMutex", "sync/atomic.AddInt32", "(*internal/sync.Mutex).Unlock", "internal/race.ReleaseMerge", "(*internal/sync.Mutex).unlockSlow", "internal/sync.fatal", "internal/sync.runtime_Semrelease", "sync/atomic.StoreUint32", "internal/abi.NoEscape", "internal/bytealg.MakeNoZero"], unfollowed := true, recurses := true, apart := false, narrowed := true }
def DigestCopiesUptoSaid : Prop := digestCopiesUptoRow.holds Try.pinned (OpenSpec.upto digestCopiesSpec)

/-- 'escutcheonlaw7.BoxTells', WHERE WHAT IT READS IS OF BULK AT MOST 1048576: true; the input reads as it did. -/
def boxTellsUptoRow : OpenClaim := { program := "ytdjbhbefghihcaa", sum := "20d58a15da4564a2b1dadb8d2b397fbec03539e0cd65e694551a56a66c458e7c", func := "escutcheon/escutcheonlaw7.BoxTells", spec := "boxTells", inPlace := ["sync/atomic.StoreUint32", "sync/atomic.AddUint32", "internal/abi.NoEscape", "internal/bytealg.MakeNoZero", "math/bits.Add64", "sync/atomic.AddInt32", "sync/atomic.AddInt64", "sync/atomic.LoadInt64", "sync/atomic.LoadInt32"], apart := false, narrowed := true }
def BoxTellsUptoSaid : Prop := boxTellsUptoRow.holds Try.pinned (OpenSpec.upto boxTellsSpec)

/-- 'escutcheonlaw7.BoxTurned', WHERE WHAT IT READS IS OF BULK AT MOST 1048576: true; the input reads as it did. -/
def boxTurnedUptoRow : OpenClaim := { program := "ytdjbhbefghihcaa", sum := "20d58a15da4564a2b1dadb8d2b397fbec03539e0cd65e694551a56a66c458e7c", func := "escutcheon/escutcheonlaw7.BoxTurned", spec := "boxTurned", inPlace := ["sync/atomic.StoreUint32", "sync/atomic.AddUint32", "internal/abi.NoEscape", "internal/bytealg.MakeNoZero", "math/bits.Add64", "sync/atomic.AddInt32", "sync/atomic.AddInt64", "sync/atomic.LoadInt64", "sync/atomic.LoadInt32"], apart := false, narrowed := true }
def BoxTurnedUptoSaid : Prop := boxTurnedUptoRow.holds Try.pinned (OpenSpec.upto boxTurnedSpec)

/-- 'escutcheonlaw7.BoxHides', WHERE WHAT IT READS IS OF BULK AT MOST 1048576: true; the input reads as it did. -/
def boxHidesUptoRow : OpenClaim := { program := "ytdjbhbefghihcaa", sum := "20d58a15da4564a2b1dadb8d2b397fbec03539e0cd65e694551a56a66c458e7c", func := "escutcheon/escutcheonlaw7.BoxHides", spec := "boxHides", inPlace := ["sync/atomic.StoreUint32", "sync/atomic.AddUint32", "internal/abi.NoEscape", "internal/bytealg.MakeNoZero", "math/bits.Add64", "sync/atomic.AddInt32", "sync/atomic.AddInt64", "sync/atomic.LoadInt64", "sync/atomic.LoadInt32"], apart := false, narrowed := true }
def BoxHidesUptoSaid : Prop := boxHidesUptoRow.holds Try.pinned (OpenSpec.upto boxHidesSpec)

/-- 'escutcheonlaw7.BoxMore', WHERE WHAT IT READS IS OF BULK AT MOST 1048576: true; the input reads as it did. -/
def boxMoreUptoRow : OpenClaim := { program := "ytdjbhbefghihcaa", sum := "20d58a15da4564a2b1dadb8d2b397fbec03539e0cd65e694551a56a66c458e7c", func := "escutcheon/escutcheonlaw7.BoxMore", spec := "boxMore", inPlace := ["sync/atomic.StoreUint32", "sync/atomic.AddUint32", "internal/abi.NoEscape", "internal/bytealg.MakeNoZero", "math/bits.Add64", "sync/atomic.AddInt32", "sync/atomic.AddInt64", "sync/atomic.LoadInt64", "sync/atomic.LoadInt32"], apart := false, narrowed := true }
def BoxMoreUptoSaid : Prop := boxMoreUptoRow.holds Try.pinned (OpenSpec.upto boxMoreSpec)

/-- 'escutcheonlaw7.BoxKeys', WHERE WHAT IT READS IS OF BULK AT MOST 1048576: true; the input reads as it did. -/
def boxKeysUptoRow : OpenClaim := { program := "ytdjbhbefghihcaa", sum := "20d58a15da4564a2b1dadb8d2b397fbec03539e0cd65e694551a56a66c458e7c", func := "escutcheon/escutcheonlaw7.BoxKeys", spec := "boxKeys", inPlace := ["sync/atomic.StoreUint32", "sync/atomic.AddUint32", "internal/abi.NoEscape", "internal/bytealg.MakeNoZero", "math/bits.Add64", "sync/atomic.AddInt32", "sync/atomic.AddInt64", "sync/atomic.LoadInt64", "sync/atomic.LoadInt32"], apart := false, narrowed := true }
def BoxKeysUptoSaid : Prop := boxKeysUptoRow.holds Try.pinned (OpenSpec.upto boxKeysSpec)

/-- 'escutcheonlaw7.BoxEmpty', WHERE WHAT IT READS IS OF BULK AT MOST 1048576: true; the input reads as it did. -/
def boxEmptyUptoRow : OpenClaim := { program := "ytdjbhbefghihcaa", sum := "20d58a15da4564a2b1dadb8d2b397fbec03539e0cd65e694551a56a66c458e7c", func := "escutcheon/escutcheonlaw7.BoxEmpty", spec := "boxEmpty", inPlace := ["sync/atomic.StoreUint32", "sync/atomic.AddUint32", "internal/abi.NoEscape", "internal/bytealg.MakeNoZero", "math/bits.Add64", "sync/atomic.AddInt32", "sync/atomic.AddInt64", "sync/atomic.LoadInt64", "sync/atomic.LoadInt32"], apart := false, narrowed := true }
def BoxEmptyUptoSaid : Prop := boxEmptyUptoRow.holds Try.pinned (OpenSpec.upto boxEmptySpec)

/-- 'escutcheonlaw4.DeriveTells', WHERE WHAT IT READS IS OF BULK AT MOST 1048576: true; the input reads as it did. -/
def deriveTellsUptoRow : OpenClaim := { program := "ytdjbhbefghihcaa", sum := "20d58a15da4564a2b1dadb8d2b397fbec03539e0cd65e694551a56a66c458e7c", func := "escutcheon/escutcheonlaw4.DeriveTells", spec := "deriveTells", inPlace := ["sync/atomic.LoadUint32", "(*internal/sync.Mutex).Lock", "internal/race.Disable", "sync/atomic.CompareAndSwapInt32", "internal/race.Enable", "internal/race.Acquire", "(*internal/sync.Mutex).lockSlow", "internal/sync.runtime_canSpin", "internal/sync.runtime_doSpin", "internal/sync.throw", "internal/sync.runtime_nanotime", "internal/sync.runtime_SemacquireMutex", "sync/atomic.AddInt32", "(*internal/sync.Mutex).Unlock", "internal/race.ReleaseMerge", "(*internal/sync.Mutex).unlockSlow", "internal/sync.fatal", "internal/sync.runtime_Semrelease", "sync/atomic.StoreUint32", "internal/abi.NoEscape", "internal/bytealg.MakeNoZero"], unfollowed := true, recurses := true, apart := false, narrowed := true }
def DeriveTellsUptoSaid : Prop := deriveTellsUptoRow.holds Try.pinned (OpenSpec.upto deriveTellsSpec)

/-- 'escutcheonlaw4.DeriveLong', WHERE WHAT IT READS IS OF BULK AT MOST 1048576: true; the input reads as it did. -/
def deriveLongUptoRow : OpenClaim := { program := "ytdjbhbefghihcaa", sum := "20d58a15da4564a2b1dadb8d2b397fbec03539e0cd65e694551a56a66c458e7c", func := "escutcheon/escutcheonlaw4.DeriveLong", spec := "deriveLong", inPlace := ["sync/atomic.LoadUint32", "(*internal/sync.Mutex).Lock", "internal/race.Disable", "sync/atomic.CompareAndSwapInt32", "internal/race.Enable", "internal/race.Acquire", "(*internal/sync.Mutex).lockSlow", "internal/sync.runtime_canSpin", "internal/sync.runtime_doSpin", "internal/sync.throw", "internal/sync.runtime_nanotime", "internal/sync.runtime_SemacquireMutex", "sync/atomic.AddInt32", "(*internal/sync.Mutex).Unlock", "internal/race.ReleaseMerge", "(*internal/sync.Mutex).unlockSlow", "internal/sync.fatal", "internal/sync.runtime_Semrelease", "sync/atomic.StoreUint32", "internal/abi.NoEscape", "internal/bytealg.MakeNoZero"], unfollowed := true, recurses := true, apart := false, narrowed := true }
def DeriveLongUptoSaid : Prop := deriveLongUptoRow.holds Try.pinned (OpenSpec.upto deriveLongSpec)

/-- 'escutcheonlaw4.DeriveSalt', WHERE WHAT IT READS IS OF BULK AT MOST 1048576: true; the input reads as it did. -/
def deriveSaltUptoRow : OpenClaim := { program := "ytdjbhbefghihcaa", sum := "20d58a15da4564a2b1dadb8d2b397fbec03539e0cd65e694551a56a66c458e7c", func := "escutcheon/escutcheonlaw4.DeriveSalt", spec := "deriveSalt", inPlace := ["sync/atomic.LoadUint32", "(*internal/sync.Mutex).Lock", "internal/race.Disable", "sync/atomic.CompareAndSwapInt32", "internal/race.Enable", "internal/race.Acquire", "(*internal/sync.Mutex).lockSlow", "internal/sync.runtime_canSpin", "internal/sync.runtime_doSpin", "internal/sync.throw", "internal/sync.runtime_nanotime", "internal/sync.runtime_SemacquireMutex", "sync/atomic.AddInt32", "(*internal/sync.Mutex).Unlock", "internal/race.ReleaseMerge", "(*internal/sync.Mutex).unlockSlow", "internal/sync.fatal", "internal/sync.runtime_Semrelease", "sync/atomic.StoreUint32", "internal/abi.NoEscape", "internal/bytealg.MakeNoZero"], unfollowed := true, recurses := true, apart := false, narrowed := true }
def DeriveSaltUptoSaid : Prop := deriveSaltUptoRow.holds Try.pinned (OpenSpec.upto deriveSaltSpec)

/-- 'escutcheonlaw4.DeriveBlocks', WHERE WHAT IT READS IS OF BULK AT MOST 1048576: true; the input reads as it did. -/
def deriveBlocksUptoRow : OpenClaim := { program := "ytdjbhbefghihcaa", sum := "20d58a15da4564a2b1dadb8d2b397fbec03539e0cd65e694551a56a66c458e7c", func := "escutcheon/escutcheonlaw4.DeriveBlocks", spec := "deriveBlocks", inPlace := ["sync/atomic.LoadUint32", "(*internal/sync.Mutex).Lock", "internal/race.Disable", "sync/atomic.CompareAndSwapInt32", "internal/race.Enable", "internal/race.Acquire", "(*internal/sync.Mutex).lockSlow", "internal/sync.runtime_canSpin", "internal/sync.runtime_doSpin", "internal/sync.throw", "internal/sync.runtime_nanotime", "internal/sync.runtime_SemacquireMutex", "sync/atomic.AddInt32", "(*internal/sync.Mutex).Unlock", "internal/race.ReleaseMerge", "(*internal/sync.Mutex).unlockSlow", "internal/sync.fatal", "internal/sync.runtime_Semrelease", "sync/atomic.StoreUint32", "internal/abi.NoEscape", "internal/bytealg.MakeNoZero"], unfollowed := true, recurses := true, apart := false, narrowed := true }
def DeriveBlocksUptoSaid : Prop := deriveBlocksUptoRow.holds Try.pinned (OpenSpec.upto deriveBlocksSpec)

/-- 'escutcheonlaw4.DeriveInfos', WHERE WHAT IT READS IS OF BULK AT MOST 1048576: true; the input reads as it did. -/
def deriveInfosUptoRow : OpenClaim := { program := "ytdjbhbefghihcaa", sum := "20d58a15da4564a2b1dadb8d2b397fbec03539e0cd65e694551a56a66c458e7c", func := "escutcheon/escutcheonlaw4.DeriveInfos", spec := "deriveInfos", inPlace := ["sync/atomic.LoadUint32", "(*internal/sync.Mutex).Lock", "internal/race.Disable", "sync/atomic.CompareAndSwapInt32", "internal/race.Enable", "internal/race.Acquire", "(*internal/sync.Mutex).lockSlow", "internal/sync.runtime_canSpin", "internal/sync.runtime_doSpin", "internal/sync.throw", "internal/sync.runtime_nanotime", "internal/sync.runtime_SemacquireMutex", "sync/atomic.AddInt32", "(*internal/sync.Mutex).Unlock", "internal/race.ReleaseMerge", "(*internal/sync.Mutex).unlockSlow", "internal/sync.fatal", "internal/sync.runtime_Semrelease", "sync/atomic.StoreUint32", "internal/abi.NoEscape", "internal/bytealg.MakeNoZero"], unfollowed := true, recurses := true, apart := false, narrowed := true }
def DeriveInfosUptoSaid : Prop := deriveInfosUptoRow.holds Try.pinned (OpenSpec.upto deriveInfosSpec)

/-- 'escutcheonlaw3.MacKeys', WHERE WHAT IT READS IS OF BULK AT MOST 1048576: true; the input reads as it did. -/
def macKeysUptoRow : OpenClaim := { program := "ytdjbhbefghihcaa", sum := "20d58a15da4564a2b1dadb8d2b397fbec03539e0cd65e694551a56a66c458e7c", func := "escutcheon/escutcheonlaw3.MacKeys", spec := "macKeys", inPlace := ["sync/atomic.LoadUint32", "(*internal/sync.Mutex).Lock", "internal/race.Disable", "sync/atomic.CompareAndSwapInt32", "internal/race.Enable", "internal/race.Acquire", "(*internal/sync.Mutex).lockSlow", "internal/sync.runtime_canSpin", "internal/sync.runtime_doSpin", "internal/sync.throw", "internal/sync.runtime_nanotime", "internal/sync.runtime_SemacquireMutex", "sync/atomic.AddInt32", "(*internal/sync.Mutex).Unlock", "internal/race.ReleaseMerge", "(*internal/sync.Mutex).unlockSlow", "internal/sync.fatal", "internal/sync.runtime_Semrelease", "sync/atomic.StoreUint32", "internal/abi.NoEscape", "internal/bytealg.MakeNoZero", "sync/atomic.AddInt64", "sync/atomic.LoadInt64"], unfollowed := true, recurses := true, apart := false, narrowed := true }
def MacKeysUptoSaid : Prop := macKeysUptoRow.holds Try.pinned (OpenSpec.upto macKeysSpec)

/-- 'escutcheonlaw3.MacSames', WHERE WHAT IT READS IS OF BULK AT MOST 1048576: true; the input reads as it did. -/
def macSamesUptoRow : OpenClaim := { program := "ytdjbhbefghihcaa", sum := "20d58a15da4564a2b1dadb8d2b397fbec03539e0cd65e694551a56a66c458e7c", func := "escutcheon/escutcheonlaw3.MacSames", spec := "macSames", inPlace := ["sync/atomic.LoadUint32", "(*internal/sync.Mutex).Lock", "internal/race.Disable", "sync/atomic.CompareAndSwapInt32", "internal/race.Enable", "internal/race.Acquire", "(*internal/sync.Mutex).lockSlow", "internal/sync.runtime_canSpin", "internal/sync.runtime_doSpin", "internal/sync.throw", "internal/sync.runtime_nanotime", "internal/sync.runtime_SemacquireMutex", "sync/atomic.AddInt32", "(*internal/sync.Mutex).Unlock", "internal/race.ReleaseMerge", "(*internal/sync.Mutex).unlockSlow", "internal/sync.fatal", "internal/sync.runtime_Semrelease", "sync/atomic.StoreUint32", "internal/abi.NoEscape", "internal/bytealg.MakeNoZero", "sync/atomic.AddInt64", "sync/atomic.LoadInt64"], unfollowed := true, recurses := true, apart := false, narrowed := true }
def MacSamesUptoSaid : Prop := macSamesUptoRow.holds Try.pinned (OpenSpec.upto macSamesSpec)

/-- 'escutcheonlaw3.MacInside', WHERE WHAT IT READS IS OF BULK AT MOST 1048576: true; the input reads as it did. -/
def macInsideUptoRow : OpenClaim := { program := "ytdjbhbefghihcaa", sum := "20d58a15da4564a2b1dadb8d2b397fbec03539e0cd65e694551a56a66c458e7c", func := "escutcheon/escutcheonlaw3.MacInside", spec := "macInside", inPlace := ["sync/atomic.LoadUint32", "(*internal/sync.Mutex).Lock", "internal/race.Disable", "sync/atomic.CompareAndSwapInt32", "internal/race.Enable", "internal/race.Acquire", "(*internal/sync.Mutex).lockSlow", "internal/sync.runtime_canSpin", "internal/sync.runtime_doSpin", "internal/sync.throw", "internal/sync.runtime_nanotime", "internal/sync.runtime_SemacquireMutex", "sync/atomic.AddInt32", "(*internal/sync.Mutex).Unlock", "internal/race.ReleaseMerge", "(*internal/sync.Mutex).unlockSlow", "internal/sync.fatal", "internal/sync.runtime_Semrelease", "sync/atomic.StoreUint32", "internal/abi.NoEscape", "internal/bytealg.MakeNoZero", "sync/atomic.AddInt64", "sync/atomic.LoadInt64"], unfollowed := true, recurses := true, apart := false, narrowed := true }
def MacInsideUptoSaid : Prop := macInsideUptoRow.holds Try.pinned (OpenSpec.upto macInsideSpec)

/-- 'escutcheonlaw3.MacTells', WHERE WHAT IT READS IS OF BULK AT MOST 1048576: true; the input reads as it did. -/
def macTellsUptoRow : OpenClaim := { program := "ytdjbhbefghihcaa", sum := "20d58a15da4564a2b1dadb8d2b397fbec03539e0cd65e694551a56a66c458e7c", func := "escutcheon/escutcheonlaw3.MacTells", spec := "macTells", inPlace := ["sync/atomic.LoadUint32", "(*internal/sync.Mutex).Lock", "internal/race.Disable", "sync/atomic.CompareAndSwapInt32", "internal/race.Enable", "internal/race.Acquire", "(*internal/sync.Mutex).lockSlow", "internal/sync.runtime_canSpin", "internal/sync.runtime_doSpin", "internal/sync.throw", "internal/sync.runtime_nanotime", "internal/sync.runtime_SemacquireMutex", "sync/atomic.AddInt32", "(*internal/sync.Mutex).Unlock", "internal/race.ReleaseMerge", "(*internal/sync.Mutex).unlockSlow", "internal/sync.fatal", "internal/sync.runtime_Semrelease", "sync/atomic.StoreUint32", "internal/abi.NoEscape", "internal/bytealg.MakeNoZero", "sync/atomic.AddInt64", "sync/atomic.LoadInt64"], unfollowed := true, recurses := true, apart := false, narrowed := true }
def MacTellsUptoSaid : Prop := macTellsUptoRow.holds Try.pinned (OpenSpec.upto macTellsSpec)

/-- 'escutcheonlaw3.MacTurned', WHERE WHAT IT READS IS OF BULK AT MOST 1048576: true; the input reads as it did. -/
def macTurnedUptoRow : OpenClaim := { program := "ytdjbhbefghihcaa", sum := "20d58a15da4564a2b1dadb8d2b397fbec03539e0cd65e694551a56a66c458e7c", func := "escutcheon/escutcheonlaw3.MacTurned", spec := "macTurned", inPlace := ["sync/atomic.LoadUint32", "(*internal/sync.Mutex).Lock", "internal/race.Disable", "sync/atomic.CompareAndSwapInt32", "internal/race.Enable", "internal/race.Acquire", "(*internal/sync.Mutex).lockSlow", "internal/sync.runtime_canSpin", "internal/sync.runtime_doSpin", "internal/sync.throw", "internal/sync.runtime_nanotime", "internal/sync.runtime_SemacquireMutex", "sync/atomic.AddInt32", "(*internal/sync.Mutex).Unlock", "internal/race.ReleaseMerge", "(*internal/sync.Mutex).unlockSlow", "internal/sync.fatal", "internal/sync.runtime_Semrelease", "sync/atomic.StoreUint32", "internal/abi.NoEscape", "internal/bytealg.MakeNoZero", "sync/atomic.AddInt64", "sync/atomic.LoadInt64"], unfollowed := true, recurses := true, apart := false, narrowed := true }
def MacTurnedUptoSaid : Prop := macTurnedUptoRow.holds Try.pinned (OpenSpec.upto macTurnedSpec)

/-- 'escutcheonlaw12.RatchetApart', WHERE WHAT IT READS IS OF BULK AT MOST 1048576: true; the input reads as it did. -/
def ratchetApartUptoRow : OpenClaim := { program := "ytdjbhbefghihcaa", sum := "20d58a15da4564a2b1dadb8d2b397fbec03539e0cd65e694551a56a66c458e7c", func := "escutcheon/escutcheonlaw12.RatchetApart", spec := "ratchetApart", inPlace := ["sync/atomic.LoadInt64", "sync/atomic.LoadUint32", "(*internal/sync.Mutex).Lock", "internal/race.Disable", "sync/atomic.CompareAndSwapInt32", "internal/race.Enable", "internal/race.Acquire", "(*internal/sync.Mutex).lockSlow", "internal/sync.runtime_canSpin", "internal/sync.runtime_doSpin", "internal/sync.throw", "internal/sync.runtime_nanotime", "internal/sync.runtime_SemacquireMutex", "sync/atomic.AddInt32", "(*internal/sync.Mutex).Unlock", "internal/race.ReleaseMerge", "(*internal/sync.Mutex).unlockSlow", "internal/sync.fatal", "internal/sync.runtime_Semrelease", "sync/atomic.StoreUint32", "internal/abi.NoEscape", "internal/bytealg.MakeNoZero", "sync/atomic.AddInt64"], unfollowed := true, recurses := true, apart := false, narrowed := true }
def RatchetApartUptoSaid : Prop := ratchetApartUptoRow.holds Try.pinned (OpenSpec.upto ratchetApartSpec)

/-- 'escutcheonlaw12.RatchetSteps', WHERE WHAT IT READS IS OF BULK AT MOST 1048576: true; the input reads as it did. -/
def ratchetStepsUptoRow : OpenClaim := { program := "ytdjbhbefghihcaa", sum := "20d58a15da4564a2b1dadb8d2b397fbec03539e0cd65e694551a56a66c458e7c", func := "escutcheon/escutcheonlaw12.RatchetSteps", spec := "ratchetSteps", inPlace := ["sync/atomic.LoadInt64", "sync/atomic.LoadUint32", "(*internal/sync.Mutex).Lock", "internal/race.Disable", "sync/atomic.CompareAndSwapInt32", "internal/race.Enable", "internal/race.Acquire", "(*internal/sync.Mutex).lockSlow", "internal/sync.runtime_canSpin", "internal/sync.runtime_doSpin", "internal/sync.throw", "internal/sync.runtime_nanotime", "internal/sync.runtime_SemacquireMutex", "sync/atomic.AddInt32", "(*internal/sync.Mutex).Unlock", "internal/race.ReleaseMerge", "(*internal/sync.Mutex).unlockSlow", "internal/sync.fatal", "internal/sync.runtime_Semrelease", "sync/atomic.StoreUint32", "internal/abi.NoEscape", "internal/bytealg.MakeNoZero", "sync/atomic.AddInt64"], unfollowed := true, recurses := true, apart := false, narrowed := true }
def RatchetStepsUptoSaid : Prop := ratchetStepsUptoRow.holds Try.pinned (OpenSpec.upto ratchetStepsSpec)

/-- 'escutcheonlaw12.RatchetNonces', WHERE WHAT IT READS IS OF BULK AT MOST 1048576: true; the input reads as it did. -/
def ratchetNoncesUptoRow : OpenClaim := { program := "ytdjbhbefghihcaa", sum := "20d58a15da4564a2b1dadb8d2b397fbec03539e0cd65e694551a56a66c458e7c", func := "escutcheon/escutcheonlaw12.RatchetNonces", spec := "ratchetNonces", inPlace := ["sync/atomic.LoadInt64", "sync/atomic.LoadUint32", "(*internal/sync.Mutex).Lock", "internal/race.Disable", "sync/atomic.CompareAndSwapInt32", "internal/race.Enable", "internal/race.Acquire", "(*internal/sync.Mutex).lockSlow", "internal/sync.runtime_canSpin", "internal/sync.runtime_doSpin", "internal/sync.throw", "internal/sync.runtime_nanotime", "internal/sync.runtime_SemacquireMutex", "sync/atomic.AddInt32", "(*internal/sync.Mutex).Unlock", "internal/race.ReleaseMerge", "(*internal/sync.Mutex).unlockSlow", "internal/sync.fatal", "internal/sync.runtime_Semrelease", "sync/atomic.StoreUint32", "internal/abi.NoEscape", "internal/bytealg.MakeNoZero", "sync/atomic.AddInt64"], unfollowed := true, recurses := true, apart := false, narrowed := true }
def RatchetNoncesUptoSaid : Prop := ratchetNoncesUptoRow.holds Try.pinned (OpenSpec.upto ratchetNoncesSpec)

/-- 'escutcheonlaw12.RatchetEpochs', WHERE WHAT IT READS IS OF BULK AT MOST 1048576: true; the input reads as it did. -/
def ratchetEpochsUptoRow : OpenClaim := { program := "ytdjbhbefghihcaa", sum := "20d58a15da4564a2b1dadb8d2b397fbec03539e0cd65e694551a56a66c458e7c", func := "escutcheon/escutcheonlaw12.RatchetEpochs", spec := "ratchetEpochs", inPlace := ["sync/atomic.LoadInt64", "sync/atomic.LoadUint32", "(*internal/sync.Mutex).Lock", "internal/race.Disable", "sync/atomic.CompareAndSwapInt32", "internal/race.Enable", "internal/race.Acquire", "(*internal/sync.Mutex).lockSlow", "internal/sync.runtime_canSpin", "internal/sync.runtime_doSpin", "internal/sync.throw", "internal/sync.runtime_nanotime", "internal/sync.runtime_SemacquireMutex", "sync/atomic.AddInt32", "(*internal/sync.Mutex).Unlock", "internal/race.ReleaseMerge", "(*internal/sync.Mutex).unlockSlow", "internal/sync.fatal", "internal/sync.runtime_Semrelease", "sync/atomic.StoreUint32", "internal/abi.NoEscape", "internal/bytealg.MakeNoZero", "sync/atomic.AddInt64"], unfollowed := true, recurses := true, apart := false, narrowed := true }
def RatchetEpochsUptoSaid : Prop := ratchetEpochsUptoRow.holds Try.pinned (OpenSpec.upto ratchetEpochsSpec)

/-- 'escutcheonlaw12.RatchetTells', WHERE WHAT IT READS IS OF BULK AT MOST 1048576: true; the input reads as it did. -/
def ratchetTellsUptoRow : OpenClaim := { program := "ytdjbhbefghihcaa", sum := "20d58a15da4564a2b1dadb8d2b397fbec03539e0cd65e694551a56a66c458e7c", func := "escutcheon/escutcheonlaw12.RatchetTells", spec := "ratchetTells", inPlace := ["sync/atomic.LoadInt64", "sync/atomic.LoadUint32", "(*internal/sync.Mutex).Lock", "internal/race.Disable", "sync/atomic.CompareAndSwapInt32", "internal/race.Enable", "internal/race.Acquire", "(*internal/sync.Mutex).lockSlow", "internal/sync.runtime_canSpin", "internal/sync.runtime_doSpin", "internal/sync.throw", "internal/sync.runtime_nanotime", "internal/sync.runtime_SemacquireMutex", "sync/atomic.AddInt32", "(*internal/sync.Mutex).Unlock", "internal/race.ReleaseMerge", "(*internal/sync.Mutex).unlockSlow", "internal/sync.fatal", "internal/sync.runtime_Semrelease", "sync/atomic.StoreUint32", "internal/abi.NoEscape", "internal/bytealg.MakeNoZero", "sync/atomic.AddInt64"], unfollowed := true, recurses := true, apart := false, narrowed := true }
def RatchetTellsUptoSaid : Prop := ratchetTellsUptoRow.holds Try.pinned (OpenSpec.upto ratchetTellsSpec)

/-- 'escutcheonlaw12.RatchetSessions', WHERE WHAT IT READS IS OF BULK AT MOST 1048576: true; the input reads as it did. -/
def ratchetSessionsUptoRow : OpenClaim := { program := "ytdjbhbefghihcaa", sum := "20d58a15da4564a2b1dadb8d2b397fbec03539e0cd65e694551a56a66c458e7c", func := "escutcheon/escutcheonlaw12.RatchetSessions", spec := "ratchetSessions", inPlace := ["sync/atomic.LoadInt64", "sync/atomic.LoadUint32", "(*internal/sync.Mutex).Lock", "internal/race.Disable", "sync/atomic.CompareAndSwapInt32", "internal/race.Enable", "internal/race.Acquire", "(*internal/sync.Mutex).lockSlow", "internal/sync.runtime_canSpin", "internal/sync.runtime_doSpin", "internal/sync.throw", "internal/sync.runtime_nanotime", "internal/sync.runtime_SemacquireMutex", "sync/atomic.AddInt32", "(*internal/sync.Mutex).Unlock", "internal/race.ReleaseMerge", "(*internal/sync.Mutex).unlockSlow", "internal/sync.fatal", "internal/sync.runtime_Semrelease", "sync/atomic.StoreUint32", "internal/abi.NoEscape", "internal/bytealg.MakeNoZero", "sync/atomic.AddInt64"], unfollowed := true, recurses := true, apart := false, narrowed := true }
def RatchetSessionsUptoSaid : Prop := ratchetSessionsUptoRow.holds Try.pinned (OpenSpec.upto ratchetSessionsSpec)

end Rows
end Go.Proofs.Ytdjbhbefghihcaa
