/- Package escutcheonbook: of the kinds of which nothing was kept. Printed by program (booknil.py). -/
import Derived.Test.YtfpepaeoclmcpaaGreatOctet
set_option linter.unusedSimpArgs false
set_option linter.unusedVariables false
namespace Go.Proofs.YtfpepaeoclmcpaaGreat
open Go.RowKit Go.Esc
/-- A book: each kind's two lists. -/
def Nils (xs : List Value) : Prop := xs.length = 14 ∧ ∀ k, k < 14 → k ≠ 2 → k ≠ 3 → xs[k]? = some (.slice none 0 0)
theorem Nils.cell {w : World} {b : Nat} {e : TypeId} {xs : List Value} (h : Nils xs) (hr : Row w b e xs) (k : Nat) (hk : k < 14) (h2 : k ≠ 2) (h3 : k ≠ 3) : w.cell? ⟨b, k, none⟩ = some (.slice none 0 0) := by
  have := hr.cell k (by rw [h.1]; exact hk)
  rw [this, ← List.getElem?_eq_getElem, h.2 k hk h2 h3]
set_option maxRecDepth 100000 in
theorem stillTexts (b : Nat) (e : TypeId) (xs : List Value) (w : World) (hr : Row w b e xs) (hn : Nils xs) :
    Calls Tryz.prog 23 #[.pointer (some ⟨b, 0, none⟩)] w fun e w' => e = .returned (.bool true) ∧ w' = w := by
  have c := hn.cell hr 0 (by decide) (by decide) (by decide)
  clear hr hn
  go_enter Tryz.func23, Tryz.ntmps23
  go_wp2_with fail
  go_loop [3] (fun i => i = .int .i64 0) (fun _ => 0)
  case atStart => rfl
  case round =>
    obtain rfl := hrel
    go_wp2_with fail
    go_ret
    exact ⟨rfl, rfl⟩
set_option maxRecDepth 100000 in
theorem putTexts (b : Nat) (e : TypeId) (xs : List Value) (w : World) (hr : Row w b e xs) (hn : Nils xs) :
    Calls Tryz.prog 31 #[.pointer (some ⟨b, 0, none⟩)] w fun e w' => e = .returned (.tuple #[]) ∧ w' = w := by
  have c := hn.cell hr 0 (by decide) (by decide) (by decide)
  clear hr hn
  go_enter Tryz.func31, Tryz.ntmps31
  go_wp2_with fail
  go_loop [2] (fun i => i = .int .i64 0) (fun _ => 0)
  case atStart => rfl
  case round =>
    obtain rfl := hrel
    go_wp2_with fail
    go_end0
    exact ⟨rfl, rfl⟩
set_option maxRecDepth 100000 in
theorem growTexts (b : Nat) (e : TypeId) (xs : List Value) (w : World) (hr : Row w b e xs) (hn : Nils xs) :
    Calls Tryz.prog 37 #[.pointer (some ⟨b, 0, none⟩)] w fun e w' => e = .returned (.slice none 0 0) ∧ w' = w := by
  have c := hn.cell hr 0 (by decide) (by decide) (by decide)
  clear hr hn
  go_enter Tryz.func37, Tryz.ntmps37
  go_wp2_with fail
  go_loop [3, 4] (fun o i => o = .slice none 0 0 ∧ i = .int .i64 0) (fun _ _ => 0)
  case atStart => exact ⟨rfl, rfl⟩
  case round =>
    obtain ⟨rfl, rfl⟩ := hrel
    go_wp2_with fail
    go_ret
    exact ⟨rfl, rfl⟩
set_option maxRecDepth 100000 in
theorem markedTexts (w : World) :
    Calls Tryz.prog 44 #[.slice none 0 0] w fun e w' => e = .returned (.bool true) ∧ w' = w := by
  go_enter Tryz.func44, Tryz.ntmps44
  go_wp2_with fail
  go_loop [3] (fun i => i = .int .i64 0) (fun _ => 0)
  case atStart => rfl
  case round =>
    obtain rfl := hrel
    go_wp2_with fail
    go_ret
    exact ⟨rfl, rfl⟩
set_option maxRecDepth 100000 in
theorem stillRules (b : Nat) (e : TypeId) (xs : List Value) (w : World) (hr : Row w b e xs) (hn : Nils xs) :
    Calls Tryz.prog 25 #[.pointer (some ⟨b, 0, none⟩)] w fun e w' => e = .returned (.bool true) ∧ w' = w := by
  have c := hn.cell hr 4 (by decide) (by decide) (by decide)
  clear hr hn
  go_enter Tryz.func25, Tryz.ntmps25
  go_wp2_with fail
  go_loop [3] (fun i => i = .int .i64 0) (fun _ => 0)
  case atStart => rfl
  case round =>
    obtain rfl := hrel
    go_wp2_with fail
    go_ret
    exact ⟨rfl, rfl⟩
set_option maxRecDepth 100000 in
theorem putRules (b : Nat) (e : TypeId) (xs : List Value) (w : World) (hr : Row w b e xs) (hn : Nils xs) :
    Calls Tryz.prog 33 #[.pointer (some ⟨b, 0, none⟩)] w fun e w' => e = .returned (.tuple #[]) ∧ w' = w := by
  have c := hn.cell hr 4 (by decide) (by decide) (by decide)
  clear hr hn
  go_enter Tryz.func33, Tryz.ntmps33
  go_wp2_with fail
  go_loop [2] (fun i => i = .int .i64 0) (fun _ => 0)
  case atStart => rfl
  case round =>
    obtain rfl := hrel
    go_wp2_with fail
    go_end0
    exact ⟨rfl, rfl⟩
set_option maxRecDepth 100000 in
theorem growRules (b : Nat) (e : TypeId) (xs : List Value) (w : World) (hr : Row w b e xs) (hn : Nils xs) :
    Calls Tryz.prog 39 #[.pointer (some ⟨b, 0, none⟩)] w fun e w' => e = .returned (.slice none 0 0) ∧ w' = w := by
  have c := hn.cell hr 4 (by decide) (by decide) (by decide)
  clear hr hn
  go_enter Tryz.func39, Tryz.ntmps39
  go_wp2_with fail
  go_loop [3, 4] (fun o i => o = .slice none 0 0 ∧ i = .int .i64 0) (fun _ _ => 0)
  case atStart => exact ⟨rfl, rfl⟩
  case round =>
    obtain ⟨rfl, rfl⟩ := hrel
    go_wp2_with fail
    go_ret
    exact ⟨rfl, rfl⟩
set_option maxRecDepth 100000 in
theorem markedRules (w : World) :
    Calls Tryz.prog 46 #[.slice none 0 0] w fun e w' => e = .returned (.bool true) ∧ w' = w := by
  go_enter Tryz.func46, Tryz.ntmps46
  go_wp2_with fail
  go_loop [3] (fun i => i = .int .i64 0) (fun _ => 0)
  case atStart => rfl
  case round =>
    obtain rfl := hrel
    go_wp2_with fail
    go_ret
    exact ⟨rfl, rfl⟩
set_option maxRecDepth 100000 in
theorem stillNotes (b : Nat) (e : TypeId) (xs : List Value) (w : World) (hr : Row w b e xs) (hn : Nils xs) :
    Calls Tryz.prog 26 #[.pointer (some ⟨b, 0, none⟩)] w fun e w' => e = .returned (.bool true) ∧ w' = w := by
  have c := hn.cell hr 6 (by decide) (by decide) (by decide)
  clear hr hn
  go_enter Tryz.func26, Tryz.ntmps26
  go_wp2_with fail
  go_loop [3] (fun i => i = .int .i64 0) (fun _ => 0)
  case atStart => rfl
  case round =>
    obtain rfl := hrel
    go_wp2_with fail
    go_ret
    exact ⟨rfl, rfl⟩
set_option maxRecDepth 100000 in
theorem putNotes (b : Nat) (e : TypeId) (xs : List Value) (w : World) (hr : Row w b e xs) (hn : Nils xs) :
    Calls Tryz.prog 34 #[.pointer (some ⟨b, 0, none⟩)] w fun e w' => e = .returned (.tuple #[]) ∧ w' = w := by
  have c := hn.cell hr 6 (by decide) (by decide) (by decide)
  clear hr hn
  go_enter Tryz.func34, Tryz.ntmps34
  go_wp2_with fail
  go_loop [2] (fun i => i = .int .i64 0) (fun _ => 0)
  case atStart => rfl
  case round =>
    obtain rfl := hrel
    go_wp2_with fail
    go_end0
    exact ⟨rfl, rfl⟩
set_option maxRecDepth 100000 in
theorem growNotes (b : Nat) (e : TypeId) (xs : List Value) (w : World) (hr : Row w b e xs) (hn : Nils xs) :
    Calls Tryz.prog 40 #[.pointer (some ⟨b, 0, none⟩)] w fun e w' => e = .returned (.slice none 0 0) ∧ w' = w := by
  have c := hn.cell hr 6 (by decide) (by decide) (by decide)
  clear hr hn
  go_enter Tryz.func40, Tryz.ntmps40
  go_wp2_with fail
  go_loop [3, 4] (fun o i => o = .slice none 0 0 ∧ i = .int .i64 0) (fun _ _ => 0)
  case atStart => exact ⟨rfl, rfl⟩
  case round =>
    obtain ⟨rfl, rfl⟩ := hrel
    go_wp2_with fail
    go_ret
    exact ⟨rfl, rfl⟩
set_option maxRecDepth 100000 in
theorem markedNotes (w : World) :
    Calls Tryz.prog 47 #[.slice none 0 0] w fun e w' => e = .returned (.bool true) ∧ w' = w := by
  go_enter Tryz.func47, Tryz.ntmps47
  go_wp2_with fail
  go_loop [3] (fun i => i = .int .i64 0) (fun _ => 0)
  case atStart => rfl
  case round =>
    obtain rfl := hrel
    go_wp2_with fail
    go_ret
    exact ⟨rfl, rfl⟩
set_option maxRecDepth 100000 in
theorem stillItems (b : Nat) (e : TypeId) (xs : List Value) (w : World) (hr : Row w b e xs) (hn : Nils xs) :
    Calls Tryz.prog 27 #[.pointer (some ⟨b, 0, none⟩)] w fun e w' => e = .returned (.bool true) ∧ w' = w := by
  have c := hn.cell hr 8 (by decide) (by decide) (by decide)
  clear hr hn
  go_enter Tryz.func27, Tryz.ntmps27
  go_wp2_with fail
  go_loop [3] (fun i => i = .int .i64 0) (fun _ => 0)
  case atStart => rfl
  case round =>
    obtain rfl := hrel
    go_wp2_with fail
    go_ret
    exact ⟨rfl, rfl⟩
set_option maxRecDepth 100000 in
theorem putItems (b : Nat) (e : TypeId) (xs : List Value) (w : World) (hr : Row w b e xs) (hn : Nils xs) :
    Calls Tryz.prog 35 #[.pointer (some ⟨b, 0, none⟩)] w fun e w' => e = .returned (.tuple #[]) ∧ w' = w := by
  have c := hn.cell hr 8 (by decide) (by decide) (by decide)
  clear hr hn
  go_enter Tryz.func35, Tryz.ntmps35
  go_wp2_with fail
  go_loop [2] (fun i => i = .int .i64 0) (fun _ => 0)
  case atStart => rfl
  case round =>
    obtain rfl := hrel
    go_wp2_with fail
    go_end0
    exact ⟨rfl, rfl⟩
set_option maxRecDepth 100000 in
theorem growItems (b : Nat) (e : TypeId) (xs : List Value) (w : World) (hr : Row w b e xs) (hn : Nils xs) :
    Calls Tryz.prog 41 #[.pointer (some ⟨b, 0, none⟩)] w fun e w' => e = .returned (.slice none 0 0) ∧ w' = w := by
  have c := hn.cell hr 8 (by decide) (by decide) (by decide)
  clear hr hn
  go_enter Tryz.func41, Tryz.ntmps41
  go_wp2_with fail
  go_loop [3, 4] (fun o i => o = .slice none 0 0 ∧ i = .int .i64 0) (fun _ _ => 0)
  case atStart => exact ⟨rfl, rfl⟩
  case round =>
    obtain ⟨rfl, rfl⟩ := hrel
    go_wp2_with fail
    go_ret
    exact ⟨rfl, rfl⟩
set_option maxRecDepth 100000 in
theorem markedItems (w : World) :
    Calls Tryz.prog 48 #[.slice none 0 0] w fun e w' => e = .returned (.bool true) ∧ w' = w := by
  go_enter Tryz.func48, Tryz.ntmps48
  go_wp2_with fail
  go_loop [3] (fun i => i = .int .i64 0) (fun _ => 0)
  case atStart => rfl
  case round =>
    obtain rfl := hrel
    go_wp2_with fail
    go_ret
    exact ⟨rfl, rfl⟩
set_option maxRecDepth 100000 in
theorem stillCommands (b : Nat) (e : TypeId) (xs : List Value) (w : World) (hr : Row w b e xs) (hn : Nils xs) :
    Calls Tryz.prog 28 #[.pointer (some ⟨b, 0, none⟩)] w fun e w' => e = .returned (.bool true) ∧ w' = w := by
  have c := hn.cell hr 10 (by decide) (by decide) (by decide)
  clear hr hn
  go_enter Tryz.func28, Tryz.ntmps28
  go_wp2_with fail
  go_loop [3] (fun i => i = .int .i64 0) (fun _ => 0)
  case atStart => rfl
  case round =>
    obtain rfl := hrel
    go_wp2_with fail
    go_ret
    exact ⟨rfl, rfl⟩
set_option maxRecDepth 100000 in
theorem putCommands (b : Nat) (e : TypeId) (xs : List Value) (w : World) (hr : Row w b e xs) (hn : Nils xs) :
    Calls Tryz.prog 36 #[.pointer (some ⟨b, 0, none⟩)] w fun e w' => e = .returned (.tuple #[]) ∧ w' = w := by
  have c := hn.cell hr 10 (by decide) (by decide) (by decide)
  clear hr hn
  go_enter Tryz.func36, Tryz.ntmps36
  go_wp2_with fail
  go_loop [2] (fun i => i = .int .i64 0) (fun _ => 0)
  case atStart => rfl
  case round =>
    obtain rfl := hrel
    go_wp2_with fail
    go_end0
    exact ⟨rfl, rfl⟩
set_option maxRecDepth 100000 in
theorem growCommands (b : Nat) (e : TypeId) (xs : List Value) (w : World) (hr : Row w b e xs) (hn : Nils xs) :
    Calls Tryz.prog 42 #[.pointer (some ⟨b, 0, none⟩)] w fun e w' => e = .returned (.slice none 0 0) ∧ w' = w := by
  have c := hn.cell hr 10 (by decide) (by decide) (by decide)
  clear hr hn
  go_enter Tryz.func42, Tryz.ntmps42
  go_wp2_with fail
  go_loop [3, 4] (fun o i => o = .slice none 0 0 ∧ i = .int .i64 0) (fun _ _ => 0)
  case atStart => exact ⟨rfl, rfl⟩
  case round =>
    obtain ⟨rfl, rfl⟩ := hrel
    go_wp2_with fail
    go_ret
    exact ⟨rfl, rfl⟩
set_option maxRecDepth 100000 in
theorem markedCommands (w : World) :
    Calls Tryz.prog 49 #[.slice none 0 0] w fun e w' => e = .returned (.bool true) ∧ w' = w := by
  go_enter Tryz.func49, Tryz.ntmps49
  go_wp2_with fail
  go_loop [3] (fun i => i = .int .i64 0) (fun _ => 0)
  case atStart => rfl
  case round =>
    obtain rfl := hrel
    go_wp2_with fail
    go_ret
    exact ⟨rfl, rfl⟩
set_option maxRecDepth 100000 in
theorem stillReplies (b : Nat) (e : TypeId) (xs : List Value) (w : World) (hr : Row w b e xs) (hn : Nils xs) :
    Calls Tryz.prog 29 #[.pointer (some ⟨b, 0, none⟩)] w fun e w' => e = .returned (.bool true) ∧ w' = w := by
  have c := hn.cell hr 12 (by decide) (by decide) (by decide)
  clear hr hn
  go_enter Tryz.func29, Tryz.ntmps29
  go_wp2_with fail
  go_loop [3] (fun i => i = .int .i64 0) (fun _ => 0)
  case atStart => rfl
  case round =>
    obtain rfl := hrel
    go_wp2_with fail
    go_ret
    exact ⟨rfl, rfl⟩
set_option maxRecDepth 100000 in
theorem putReplies (b : Nat) (e : TypeId) (xs : List Value) (w : World) (hr : Row w b e xs) (hn : Nils xs) :
    Calls Tryz.prog 30 #[.pointer (some ⟨b, 0, none⟩)] w fun e w' => e = .returned (.tuple #[]) ∧ w' = w := by
  have c := hn.cell hr 12 (by decide) (by decide) (by decide)
  clear hr hn
  go_enter Tryz.func30, Tryz.ntmps30
  go_wp2_with fail
  go_loop [2] (fun i => i = .int .i64 0) (fun _ => 0)
  case atStart => rfl
  case round =>
    obtain rfl := hrel
    go_wp2_with fail
    go_end0
    exact ⟨rfl, rfl⟩
set_option maxRecDepth 100000 in
theorem growReplies (b : Nat) (e : TypeId) (xs : List Value) (w : World) (hr : Row w b e xs) (hn : Nils xs) :
    Calls Tryz.prog 43 #[.pointer (some ⟨b, 0, none⟩)] w fun e w' => e = .returned (.slice none 0 0) ∧ w' = w := by
  have c := hn.cell hr 12 (by decide) (by decide) (by decide)
  clear hr hn
  go_enter Tryz.func43, Tryz.ntmps43
  go_wp2_with fail
  go_loop [3, 4] (fun o i => o = .slice none 0 0 ∧ i = .int .i64 0) (fun _ _ => 0)
  case atStart => exact ⟨rfl, rfl⟩
  case round =>
    obtain ⟨rfl, rfl⟩ := hrel
    go_wp2_with fail
    go_ret
    exact ⟨rfl, rfl⟩
set_option maxRecDepth 100000 in
theorem markedReplies (w : World) :
    Calls Tryz.prog 50 #[.slice none 0 0] w fun e w' => e = .returned (.bool true) ∧ w' = w := by
  go_enter Tryz.func50, Tryz.ntmps50
  go_wp2_with fail
  go_loop [3] (fun i => i = .int .i64 0) (fun _ => 0)
  case atStart => rfl
  case round =>
    obtain rfl := hrel
    go_wp2_with fail
    go_ret
    exact ⟨rfl, rfl⟩
end Go.Proofs.YtfpepaeoclmcpaaGreat
