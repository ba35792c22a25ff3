/- Plain laws on blocks of bytes. -/
import Derived.Test.YtdjbhbefghihcaaPure
namespace Go.Esc
theorem blocks_snoc (n : Nat) : ∀ (s : St) (m : Bs), blocks s m (n+1) = comp (blocks s m n) ((m.drop (64 * n)).take 64) := by
  induction n with
  | zero => intro s m; simp [blocks]
  | succ n ih =>
    intro s m
    rw [blocks, ih, blocks, List.drop_drop]
    rw [show 64 + 64 * n = 64 * (n + 1) by omega]
theorem blocks_append (n : Nat) : ∀ (s : St) (l b : Bs), 64 * n ≤ l.length → blocks s (l ++ b) n = blocks s l n := by
  induction n with
  | zero => intro s l b _; rfl
  | succ n ih =>
    intro s l b h
    rw [blocks, blocks, List.take_append_of_le_length (by omega), List.drop_append_of_le_length (by omega), ih _ _ _ (by simp; omega)]
/-- What stands of the bytes l in a digest. -/
def restOf (l : Bs) : Bs := l.drop (64 * (l.length / 64))
def wordsOf (l : Bs) : St := blocks initS l (l.length / 64)
theorem restOf_length (l : Bs) : (restOf l).length = l.length % 64 := by simp [restOf]; omega
theorem rest_append (l b : Bs) : restOf l ++ b = (l ++ b).drop (64 * (l.length / 64)) := by
  rw [restOf, List.drop_append_of_le_length (by omega)]
theorem words_append (l b : Bs) : wordsOf l = blocks initS (l ++ b) (l.length / 64) := by
  rw [wordsOf, blocks_append _ _ _ _ (by omega)]
theorem putB_length' (v n : Nat) : (putB v n).length = n := by induction n <;> simp [putB, *]
theorem shaPad_length (n : Nat) : (n + (shaPad n).length) % 64 = 0 := by
  simp [shaPad, putB_length']; omega
theorem sha_words (l : Bs) : sha l = (wordsOf (l ++ shaPad l.length)).l.flatMap (fun w => putB w.toNat 4) := rfl
end Go.Esc
