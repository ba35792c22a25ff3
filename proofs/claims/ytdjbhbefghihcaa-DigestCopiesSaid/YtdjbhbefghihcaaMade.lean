/- The table of a digest is made, once. -/
import Derived.Test.YtdjbhbefghihcaaTable
set_option linter.unusedSimpArgs false
set_option linter.unusedVariables false
namespace Go.Proofs.Ytdjbhbefghihcaa
open Go.RowKit Go.Esc
theorem words' (l : List Wd) (h0 : 0 < l.length) (hm : l.length ≤ 100) (n : Nat) (hn : n = l.length) (g off : Nat) (te : TypeId) (xs : List Value) (hx : off + l.length ≤ xs.length) (s : ByteArray) (hh : s = bs (hex (l.flatMap fun x => putB x.toNat 4))) (w : World) (hrow : Row w g te xs) :
    Calls Try.prog 110 #[.slice (some ⟨g, off, none⟩) n n, .string s] w fun e w' => e = .returned (.tuple #[]) ∧ Row w' g te (splice xs off (vs l)) ∧ But g w w' := by
  subst hn; subst hh
  exact words l h0 hm g off te xs hx _ rfl w hrow
def once0 (k : Int) : List Value := [.int .u32 0, .int .i32 k, .int .u32 0]
def zeros72 : List Value := List.replicate 72 (.int .u32 0)
theorem fill_k (k : Int) : splice (once0 k ++ zeros72) 3 (vs kTab) = once0 k ++ (vs kTab ++ List.replicate 8 (.int .u32 0)) := by kernel_rfl
theorem fill_h (k : Int) : splice (once0 k ++ (vs kTab ++ List.replicate 8 (.int .u32 0))) 67 (vs hTab) = once0 k ++ (vs kTab ++ vs hTab) := by kernel_rfl
set_option maxRecDepth 100000 in
set_option maxHeartbeats 1600000 in
theorem table_fill (tb pv : Nat) (hne : tb ≠ pv) (te : TypeId) (w : World) (h : Row w tb te (once0 1 ++ zeros72)) (hp : Row w pv 94 [.pointer (some ⟨tb, 0, none⟩)]) :
    Calls Try.prog 109 #[.pointer (some ⟨pv, 0, none⟩)] w fun e w' => e = .returned (.tuple #[]) ∧ But tb w w' ∧ Row w' pv 94 [.pointer (some ⟨tb, 0, none⟩)] ∧ Row w' tb te (once0 1 ++ (vs kTab ++ vs hTab)) := by
  have c0 := hp.cell 0 (by simp)
  simp at c0
  have HW1 : ∀ (s : ByteArray) (_ : s = bs (hex (kTab.flatMap fun x => putB x.toNat 4))) (w : World) (_ : Row w tb te (once0 1 ++ zeros72)), Calls Try.prog 110 #[.slice (some ⟨tb, 3, none⟩) 64 64, .string s] w fun e w' => e = .returned (.tuple #[]) ∧ Row w' tb te (once0 1 ++ (vs kTab ++ List.replicate 8 (.int .u32 0))) ∧ But tb w w' := fun s hs w hr => by
    have := words' kTab (by decide) (by decide) 64 rfl tb 3 te _ (by simp [once0, zeros72, kTab_length]) s hs w hr
    rwa [fill_k] at this
  have HW2 : ∀ (s : ByteArray) (_ : s = bs (hex (hTab.flatMap fun x => putB x.toNat 4))) (w : World) (_ : Row w tb te (once0 1 ++ (vs kTab ++ List.replicate 8 (.int .u32 0)))), Calls Try.prog 110 #[.slice (some ⟨tb, 67, none⟩) 8 8, .string s] w fun e w' => e = .returned (.tuple #[]) ∧ Row w' tb te (once0 1 ++ (vs kTab ++ vs hTab)) ∧ But tb w w' := fun s hs w hr => by
    have := words' hTab (by decide) (by decide) 8 rfl tb 67 te _ (by simp [once0, vs_length, kTab_length, hTab_length]) s hs w hr
    rwa [fill_h] at this
  have H1 := Lib.hid HW1
  have H2 := Lib.hid HW2
  clear HW1 HW2
  go_enter Try.func109, Try.ntmps109
  go_wp2_with (go_at_call 110; first
    | (refine (H1.out _ (by kernel_rfl) _ h).mono ?_; rintro e w1 ⟨rfl, hr1, hb1⟩; have hp1 := hb1.row hp (Ne.symm hne); have c1 := hp1.cell 0 (by simp); simp at c1; clear c0 h)
    | (refine (H2.out _ (by kernel_rfl) _ hr1).mono ?_; rintro e w2 ⟨rfl, hr2, hb2⟩))
  go_end0
  exact ⟨rfl, hb1.trans hb2, hb2.row hp1 (Ne.symm hne), hr2⟩
theorem mkf' (fn : Fn) (first cap : Array Value) (w : World) : (Instr.makeFunc fn first cap).run Try.prog w = .ok (.func fn first cap) w := rfl
set_option maxRecDepth 100000 in
set_option maxHeartbeats 1600000 in
theorem table_made (b : Nat) (te : TypeId) (w : World) (h : Row w b te (once0 0 ++ zeros72)) :
    Calls Try.prog 84 #[.pointer (some ⟨b, 0, none⟩)] w fun e w' => e = .returned (.pointer (some ⟨b, 0, none⟩)) ∧ But b w w' ∧ Row w' b te tableCells := by
  have hb := h.lt
  have hmf := mkf'
  have l75 : (once0 0 ++ zeros72).length = 75 := rfl
  have l75' : (once0 1 ++ (vs kTab ++ vs hTab)).length = 75 := rfl
  have hrun : ∀ (w1 : World), (callFunc 109 #[.pointer (some ⟨w.heap.size, 0, none⟩)]).run Try.prog w1 = .ok (.enter 109 #[.pointer (some ⟨w.heap.size, 0, none⟩)]) w1 := fun w1 => run_callFunc_body Try.func109 (by kernel_rfl) (by kernel_rfl) _ w1
  have ra : Row (w.alloc (.cells #[.pointer (some ⟨b, 0, none⟩)] 94)) b te _ := h.alloc _
  have rp : Row (w.alloc (.cells #[.pointer (some ⟨b, 0, none⟩)] 94)) w.heap.size 94 [.pointer (some ⟨b, 0, none⟩)] := Row.new _ _ _
  have hdo := once_first b 0 109 #[.pointer (some ⟨w.heap.size, 0, none⟩)] _ (fun w2 => But b w w2 ∧ Row w2 w.heap.size 94 [.pointer (some ⟨b, 0, none⟩)] ∧ Row w2 b te (once0 1 ++ (vs kTab ++ vs hTab))) hrun (ra.cell 0 (by omega)) (ra.cell 1 (by omega)) (ra.frozen 1 (by omega)) (by
    refine (table_fill b w.heap.size (by omega) te _ (ra.set 1 (.int .i32 1)) (rp.setOther _ _ (by simp; omega))).mono ?_
    rintro e w2 ⟨rfl, hbut, hp2, hr⟩
    exact ⟨rfl, ⟨((But.pu ((Pu.refl w).alloc _)).trans (But.set _ _ _)).trans hbut, hp2, hr⟩, hr.cell 0 (by omega), hr.frozen 0 (by omega), hr.cell 1 (by omega), hr.frozen 1 (by omega)⟩)
  have hd2 := hdo.mono (R' := fun e w' => e = .returned (.tuple #[]) ∧ But b w w' ∧ w'.cell? ⟨w.heap.size, 0, none⟩ = some (.pointer (some ⟨b, 0, none⟩)) ∧ Row w' b te tableCells) (by
    rintro e w' ⟨rfl, w2, ⟨hb2, hp2, hr2⟩, rfl⟩
    have r1 := (hr2.drew.set 0 (.int .u32 1)).set 1 (.int .i32 0)
    refine ⟨rfl, ((hb2.trans (But.pu (Pu.refl w2).drew)).trans (But.set _ _ _)).trans (But.set _ _ _), ?_, ?_⟩
    · exact ((hp2.drew.setOther ⟨b, 0, none⟩ _ (by simp; omega)).setOther ⟨b, 1, none⟩ _ (by simp; omega)).cell 0 (by simp)
    · rw [tableCells, List.append_assoc]; exact r1)
  have HD := Lib.hid hd2
  clear hdo hrun hd2 l75 l75'
  go_enter Try.func84, Try.ntmps84
  go_wp2_with (go_at_call 108; refine HD.out.mono ?_; rintro e w1 ⟨rfl, hb2, c0, hrow⟩)
  go_ret
  exact ⟨rfl, hb2, hrow⟩
end Go.Proofs.Ytdjbhbefghihcaa
