/- A slice of one byte as a text. -/
import Derived.Test.YtdjbhbefghihcaaBase
namespace Go.Esc
open Go Go.RowKit
theorem one_byte_eq {P : Program} (w : World) (x : Nat) (h : x < 256) (s d e : TypeId) (hs : P.underlying s = some (.slice e)) (he : P.underlying e = some (.int .u8)) (hd : P.underlying d = some .string) :
    (convert s d (.slice (some ⟨w.heap.size, 0, none⟩) 1 1)).run P (w.alloc (.cells #[.int .u8 (x : Int)] e)) = .ok (S [UInt8.ofNat x]) (w.alloc (.cells #[.int .u8 (x : Int)] e)) := by
  refine Row.conv (e := e) s d ?_ rfl hs he hd
  have := Row.new w #[.int .u8 (x : Int)] e
  have e2 : cells [UInt8.ofNat x] = [.int .u8 (x : Int)] := by
    simp [cells, B]; omega
  rw [e2]; exact this
end Go.Esc
