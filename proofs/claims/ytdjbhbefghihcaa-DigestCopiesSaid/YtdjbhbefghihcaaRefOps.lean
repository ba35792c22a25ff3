/- The operations of a region, by its number; the document's turns to the right. -/
import Derived.Test.YtdjbhbefghihcaaDigSum
import Derived.Test.YtdjbhbefghihcaaRefOctet
namespace Go.Esc
open Go Go.RowKit
def opsOf : Code → Nat → Array Oper
  | .region i o _, n => if i = n then o else #[]
  | .seq a b, n => let x := opsOf a n; if x.size = 0 then opsOf b n else x
  | .cond _ a b, n => let x := opsOf a n; if x.size = 0 then opsOf b n else x
  | .block _ b, n => opsOf b n
  | .loop b, n => opsOf b n
  | .scope b, n => opsOf b n
  | _, _ => #[]
def opsIn (f : Func) (n : Nat) : Array Oper := match f.body with | some c => opsOf c n | none => #[]
end Go.Esc
namespace Go.Proofs.Ytdjbhbefghihcaa
open Go.RowKit Go.Esc
theorem refRight (x : BitVec 32) (n : Int) (h1 : 0 < n) (h2 : n < 32) (w : World) :
    Calls Try.prog 82 #[V x, .int .i64 (-n)] w fun e w' => e = .returned (V (rotr x n.toNat)) ∧ w' = w := by
  have e : (-n % 32).toNat = (32 - n.toNat % 32) % 32 := by omega
  have hl := refLeft x (-n) (by omega) (by omega) w
  rw [e] at hl
  exact hl
theorem refLeftRun : ∀ args w, (callFunc 82 args).run Try.prog w = .ok (.enter 82 args) w := fun args w => run_callFunc_body Try.func82 (by kernel_rfl) (by kernel_rfl) args w
theorem wrap32_wd (y : Wd) : IntKind.u32.wrap (wd y) = wd y := by have := wd_nonneg y; have := wd_lt y; rw [IntKind.wrap_u32]; omega
def row27 (x : St) (T1 T2 : Wd) : List Value := [V (T1 + T2), V x.a, V x.b, V x.c, V (x.d + T1), V x.e, V x.f, V x.g]
def t1Of (x : St) (kn wn : Wd) : Wd := x.h + (rotr x.e 6 ^^^ rotr x.e 11 ^^^ rotr x.e 25) + (x.e &&& x.f ^^^ ~~~x.e &&& x.g) + kn + wn
def t2Of (x : St) : Wd := (rotr x.a 2 ^^^ rotr x.a 13 ^^^ rotr x.a 22) + (x.a &&& x.b ^^^ x.a &&& x.c ^^^ x.b &&& x.c)
theorem row27_step (x : St) (kn wn : Wd) : row27 x (t1Of x kn wn) (t2Of x) = vs (Esc.step x kn wn).l := rfl
end Go.Proofs.Ytdjbhbefghihcaa
