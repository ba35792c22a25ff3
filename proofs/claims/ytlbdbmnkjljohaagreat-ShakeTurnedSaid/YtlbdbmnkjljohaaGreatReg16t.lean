/- Drawing regions of ShakeTurned. -/
import Derived.Test.YtlbdbmnkjljohaaGreatT17
import Derived.Test.YtlbdbmnkjljohaaGreatRegionT
import Derived.Test.YtlbdbmnkjljohaaGreatLaw16g
set_option linter.unusedSimpArgs false
set_option linter.unusedVariables false
namespace Go.Proofs.YtlbdbmnkjljohaaGreat
open Go.RowKit Go.Esc
set_option maxRecDepth 100000 in
set_option maxHeartbeats 3200000 in
theorem regT6 {u3 u4 u5 u6 u7 u8 u9 u10 u11 u12 u13 u14 u15 u16 u17 u18 u19 u20 u21 u22 u23 u24 u25 u26 u27 u28 u29 u30 u31 u32 u33 u34 u35 u36 u37 u38 u39 u40 u41 u42 u43 u44 u45 u46 u47 u48 u49 u50 u51 u52 u53 u54 u55 u56 u57 u58 u59 u60 u61 u62 u63 u64 u65 u66 u67 u68 u69 u70 u71 u72 u73 u74 u75 u76 u77 u78 u79 u80 u81 u82 u83 u84 u85 u86 u87 u88 u89 u90 u91 u92 u93 u94 u95 u96 u97 u98 u99 u100 u101 u102 u103 u104 u105 u106 u107 u108 u109 u110 u111 u112 u113 u114 u115 u116 u117 u118 u119 u120 u121 u122 u123 u124 u125 u126 u127 u128 u129 u130 u131 u132 u133 u134 u135 u136 u137 u138 u139 u140 u141 u142 u143 u144 u145 u146 u147 u148 u149 u150 u151 u152 u153 u154 u155 u156 u157 u158 u159 u160 u161 u162 u163 u164 u165 u166 u167 u168 u169 u170 u171 u172 u173 u174 u175 u176 u177 u178 u179 u180 u181 u182 u183 u184 u185 u186 u187 u188 u189 u190 u191 u192 u193 u194 u195 u196 u197 u198 u199 u200 u201 u202 u203 u204 u205 u206 u207 u208 u209 u210 u211 u212 u213 u214 u215 u216 u217 u218 u219 u220 u221 u222 u223 u224 u225 u226 u227 u228 u229 u230 u231 u232 u233 u234 u235 u236 u237 : Value} {g len cv i i2 : Nat} {k j r r2 : Int} {w : World} {Q : Exit → Act → World → Prop} (q6 : ((len : Int) == 0) = false) (q7 : ¬ (len : Int) = 0) (q8 : ¬ len = 0) (e1 : k.tmod len = r) (e2 : IntKind.i64.wrap (r + len) = r + len) (e3 : (r + (len : Int)).tmod len = i) (e1' : j.tmod len = r2) (e2' : IntKind.i64.wrap (r2 + len) = r2 + len) (e3' : (r2 + (len : Int)).tmod len = i2)
    (hQ : ∀ (o60 o61 o62 o63 o64 o65 o66 o67 o68 o69 o70 o71 o72 o73 o74 o75 o76 o77 o78 o79 : Value) (w' : World), Pu w w' → Q .normal ⟨#[(.slice (some ⟨g, 0, none⟩) len cv), (.int .i64 ((i : Int))), (.int .i64 ((i2 : Int))), u3, u4, u5, u6, u7, u8, u9, u10, u11, u12, u13, u14, u15, u16, u17, u18, u19, u20, u21, u22, u23, u24, u25, u26, u27, u28, u29, u30, u31, u32, u33, u34, u35, u36, u37, u38, u39, u40, u41, u42, u43, u44, u45, u46, u47, u48, u49, u50, u51, u52, u53, u54, u55, u56, u57, u58, u59, o60, o61, o62, o63, o64, o65, o66, o67, o68, o69, o70, o71, o72, o73, o74, o75, o76, o77, o78, o79, u80, u81, u82, u83, u84, u85, u86, u87, u88, u89, u90, u91, u92, u93, u94, u95, u96, u97, u98, u99, u100, u101, u102, u103, u104, u105, u106, u107, u108, u109, u110, u111, u112, u113, u114, u115, u116, u117, u118, u119, u120, u121, u122, u123, u124, u125, u126, u127, u128, u129, u130, u131, u132, u133, u134, u135, u136, u137, u138, u139, u140, u141, u142, u143, u144, u145, u146, u147, u148, u149, u150, u151, u152, u153, u154, u155, u156, u157, u158, u159, u160, u161, u162, u163, u164, u165, u166, u167, u168, u169, u170, u171, u172, u173, u174, u175, u176, u177, u178, u179, u180, u181, u182, u183, u184, u185, u186, u187, u188, u189, u190, u191, u192, u193, u194, u195, u196, u197, u198, u199, u200, u201, u202, u203, u204, u205, u206, u207, u208, u209, u210, u211, u212, u213, u214, u215, u216, u217, u218, u219, u220, u221, u222, u223, u224, u225, u226, u227, u228, u229, u230, u231, u232, u233, u234, u235, u236, u237], []⟩ w') :
    (Code.region 6 (opsIn Tryz.f10 6) true).wp Tryz.prog Q ⟨#[(.slice (some ⟨g, 0, none⟩) len cv), (.int .i64 (k)), (.int .i64 (j)), u3, u4, u5, u6, u7, u8, u9, u10, u11, u12, u13, u14, u15, u16, u17, u18, u19, u20, u21, u22, u23, u24, u25, u26, u27, u28, u29, u30, u31, u32, u33, u34, u35, u36, u37, u38, u39, u40, u41, u42, u43, u44, u45, u46, u47, u48, u49, u50, u51, u52, u53, u54, u55, u56, u57, u58, u59, u60, u61, u62, u63, u64, u65, u66, u67, u68, u69, u70, u71, u72, u73, u74, u75, u76, u77, u78, u79, u80, u81, u82, u83, u84, u85, u86, u87, u88, u89, u90, u91, u92, u93, u94, u95, u96, u97, u98, u99, u100, u101, u102, u103, u104, u105, u106, u107, u108, u109, u110, u111, u112, u113, u114, u115, u116, u117, u118, u119, u120, u121, u122, u123, u124, u125, u126, u127, u128, u129, u130, u131, u132, u133, u134, u135, u136, u137, u138, u139, u140, u141, u142, u143, u144, u145, u146, u147, u148, u149, u150, u151, u152, u153, u154, u155, u156, u157, u158, u159, u160, u161, u162, u163, u164, u165, u166, u167, u168, u169, u170, u171, u172, u173, u174, u175, u176, u177, u178, u179, u180, u181, u182, u183, u184, u185, u186, u187, u188, u189, u190, u191, u192, u193, u194, u195, u196, u197, u198, u199, u200, u201, u202, u203, u204, u205, u206, u207, u208, u209, u210, u211, u212, u213, u214, u215, u216, u217, u218, u219, u220, u221, u222, u223, u224, u225, u226, u227, u228, u229, u230, u231, u232, u233, u234, u235, u236, u237], []⟩ w := by
  dsimp only [opsIn, opsOf, Tryz.f10]
  apply region_late (Φs := (Is _ :: Is _ :: Is _ :: Is _ :: Is _ :: Is _ :: Is _ :: Is _ :: Is _ :: Is _ :: Is _ :: Is _ :: Is _ :: Is _ :: Is _ :: Is _ :: Is _ :: Is _ :: Is _ :: Is _ :: Is _ :: Is _ :: [])) (hm := by kernel_rfl) (hE := by kernel_rfl) (hD := by kernel_rfl) (hsize := by kernel_rfl)
  case hop =>
    refine ⟨?_, ?_, ?_, ?_, ?_, ?_, ?_, ?_, ?_, ?_, ?_, ?_, ?_, ?_, ?_, ?_, ?_, ?_, ?_, ?_, ?_, ?_, trivial⟩
    · intro a' w' hs hp he
      have e1 := hs 1 (by kernel_rfl)
      try simp [Is, Region.binds] at he
      exact op_val rfl (wanted_none rfl) (by first | (go_simp; done) | (go_simp; rfl) | (simp [execOp, Act.eval, go_sem, *]; done) | (simp [execOp, Act.eval, go_sem, *]; rfl)) rfl (Pu.refl _)
    · intro a' w' hs hp he
      have e0 := hs 0 (by kernel_rfl)
      try simp [Is, Region.binds] at he
      exact op_val rfl (wanted_none rfl) (by first | (go_simp; done) | (go_simp; rfl) | (simp [execOp, Act.eval, go_sem, *]; done) | (simp [execOp, Act.eval, go_sem, *]; rfl)) rfl (Pu.refl _)
    · intro a' w' hs hp he
      try simp [Is, Region.binds] at he
      exact op_val rfl (wanted_none rfl) (by first | (go_simp; done) | (go_simp; rfl) | (simp [execOp, Act.eval, go_sem, *]; done) | (simp [execOp, Act.eval, go_sem, *]; rfl)) rfl (Pu.refl _)
    · intro a' w' hs hp he
      try simp [Is, Region.binds] at he
      exact op_val rfl (wanted_none rfl) (by first | (go_simp; done) | (go_simp; rfl) | (simp [execOp, Act.eval, go_sem, *]; done) | (simp [execOp, Act.eval, go_sem, *]; rfl)) rfl (Pu.refl _)
    · intro a' w' hs hp he
      have e0 := hs 0 (by kernel_rfl)
      try simp [Is, Region.binds] at he
      exact op_val rfl (wanted_none rfl) (by first | (go_simp; done) | (go_simp; rfl) | (simp [execOp, Act.eval, go_sem, *]; done) | (simp [execOp, Act.eval, go_sem, *]; rfl)) rfl (Pu.refl _)
    · intro a' w' hs hp he
      try simp [Is, Region.binds] at he
      exact op_val rfl (wanted_none rfl) (by first | (go_simp; done) | (go_simp; rfl) | (simp [execOp, Act.eval, go_sem, *]; done) | (simp [execOp, Act.eval, go_sem, *]; rfl)) rfl (Pu.refl _)
    · intro a' w' hs hp he
      try simp [Is, Region.binds] at he
      exact op_val rfl (wanted_none rfl) (by first | (go_simp; done) | (go_simp; rfl) | (simp [execOp, Act.eval, go_sem, *]; done) | (simp [execOp, Act.eval, go_sem, *]; rfl)) rfl (Pu.refl _)
    · intro a' w' hs hp he
      have e0 := hs 0 (by kernel_rfl)
      try simp [Is, Region.binds] at he
      exact op_val rfl (wanted_none rfl) (by first | (go_simp; done) | (go_simp; rfl) | (simp [execOp, Act.eval, go_sem, *]; done) | (simp [execOp, Act.eval, go_sem, *]; rfl)) rfl (Pu.refl _)
    · intro a' w' hs hp he
      try simp [Is, Region.binds] at he
      exact op_val rfl (wanted_none rfl) (by first | (go_simp; done) | (go_simp; rfl) | (simp [execOp, Act.eval, go_sem, *]; done) | (simp [execOp, Act.eval, go_sem, *]; rfl)) rfl (Pu.refl _)
    · intro a' w' hs hp he
      try simp [Is, Region.binds] at he
      exact op_val rfl (wanted_none rfl) (by first | (go_simp; done) | (go_simp; rfl) | (simp [execOp, Act.eval, go_sem, *]; done) | (simp [execOp, Act.eval, go_sem, *]; rfl)) rfl (Pu.refl _)
    · intro a' w' hs hp he
      have e2 := hs 2 (by kernel_rfl)
      try simp [Is, Region.binds] at he
      exact op_val rfl (wanted_none rfl) (by first | (go_simp; done) | (go_simp; rfl) | (simp [execOp, Act.eval, go_sem, *]; done) | (simp [execOp, Act.eval, go_sem, *]; rfl)) rfl (Pu.refl _)
    · intro a' w' hs hp he
      have e0 := hs 0 (by kernel_rfl)
      try simp [Is, Region.binds] at he
      exact op_val rfl (wanted_none rfl) (by first | (go_simp; done) | (go_simp; rfl) | (simp [execOp, Act.eval, go_sem, *]; done) | (simp [execOp, Act.eval, go_sem, *]; rfl)) rfl (Pu.refl _)
    · intro a' w' hs hp he
      try simp [Is, Region.binds] at he
      exact op_val rfl (wanted_none rfl) (by first | (go_simp; done) | (go_simp; rfl) | (simp [execOp, Act.eval, go_sem, *]; done) | (simp [execOp, Act.eval, go_sem, *]; rfl)) rfl (Pu.refl _)
    · intro a' w' hs hp he
      try simp [Is, Region.binds] at he
      exact op_val rfl (wanted_none rfl) (by first | (go_simp; done) | (go_simp; rfl) | (simp [execOp, Act.eval, go_sem, *]; done) | (simp [execOp, Act.eval, go_sem, *]; rfl)) rfl (Pu.refl _)
    · intro a' w' hs hp he
      have e0 := hs 0 (by kernel_rfl)
      try simp [Is, Region.binds] at he
      exact op_val rfl (wanted_none rfl) (by first | (go_simp; done) | (go_simp; rfl) | (simp [execOp, Act.eval, go_sem, *]; done) | (simp [execOp, Act.eval, go_sem, *]; rfl)) rfl (Pu.refl _)
    · intro a' w' hs hp he
      try simp [Is, Region.binds] at he
      exact op_val rfl (wanted_none rfl) (by first | (go_simp; done) | (go_simp; rfl) | (simp [execOp, Act.eval, go_sem, *]; done) | (simp [execOp, Act.eval, go_sem, *]; rfl)) rfl (Pu.refl _)
    · intro a' w' hs hp he
      try simp [Is, Region.binds] at he
      exact op_val rfl (wanted_none rfl) (by first | (go_simp; done) | (go_simp; rfl) | (simp [execOp, Act.eval, go_sem, *]; done) | (simp [execOp, Act.eval, go_sem, *]; rfl)) rfl (Pu.refl _)
    · intro a' w' hs hp he
      have e0 := hs 0 (by kernel_rfl)
      try simp [Is, Region.binds] at he
      exact op_val rfl (wanted_none rfl) (by first | (go_simp; done) | (go_simp; rfl) | (simp [execOp, Act.eval, go_sem, *]; done) | (simp [execOp, Act.eval, go_sem, *]; rfl)) rfl (Pu.refl _)
    · intro a' w' hs hp he
      try simp [Is, Region.binds] at he
      exact op_val rfl (wanted_none rfl) (by first | (go_simp; done) | (go_simp; rfl) | (simp [execOp, Act.eval, go_sem, *]; done) | (simp [execOp, Act.eval, go_sem, *]; rfl)) rfl (Pu.refl _)
    · intro a' w' hs hp he
      try simp [Is, Region.binds] at he
      exact op_val rfl (wanted_none rfl) (by first | (go_simp; done) | (go_simp; rfl) | (simp [execOp, Act.eval, go_sem, *]; done) | (simp [execOp, Act.eval, go_sem, *]; rfl)) rfl (Pu.refl _)
    · intro a' w' hs hp he
      try simp [Is, Region.binds] at he
      exact op_val rfl (wanted_none rfl) (by first | (go_simp; done) | (go_simp; rfl) | (simp [execOp, Act.eval, go_sem, *]; done) | (simp [execOp, Act.eval, go_sem, *]; rfl)) rfl (Pu.refl _)
    · intro a' w' hs hp he
      try simp [Is, Region.binds] at he
      exact op_val rfl (wanted_none rfl) (by first | (go_simp; done) | (go_simp; rfl) | (simp [execOp, Act.eval, go_sem, *]; done) | (simp [execOp, Act.eval, go_sem, *]; rfl)) rfl (Pu.refl _)
  case hend =>
    intro a' w' hdef hsz hs hp hall
    obtain ⟨r0, r1, r2, r3, r4, r5, r6, r7, r8, r9, r10, r11, r12, r13, r14, r15, r16, r17, r18, r19, r20, r21, -⟩ := hall
    have hA := agree_done (agree_step (agree_step (agree_step (agree_step (agree_step (agree_step (agree_step (agree_step (agree_step (agree_step (agree_step (agree_step (agree_step (agree_step (agree_step (agree_step (agree_step (agree_step (agree_step (agree_step (agree_step (agree_step (agree_init [60, 61, 62, 63, 64, 65, 66, 67, 68, 69, 70, 71, 72, 73, 74, 75, 76, 77, 78, 79, 1, 2] hsz hs (by kernel_rfl)) r0) r1) r2) r3) r4) r5) r6) r7) r8) r9) r10) r11) r12) r13) r14) r15) r16) r17) r18) r19) r20) r21)
    have ha := act_of hA hdef
    rw [ha]
    clear ha hA hs hsz hdef r0 r1 r2 r3 r4 r5 r6 r7 r8 r9 r10 r11 r12 r13 r14 r15 r16 r17 r18 r19 r20 r21 
    (try simp only [List.setIfInBounds_toArray])
    (try dsimp only [List.set_cons_zero, List.set_cons_succ])
    (try simp only [Exit.then])
    exact hQ _ _ _ _ _ _ _ _ _ _ _ _ _ _ _ _ _ _ _ _ _  hp
set_option maxRecDepth 100000 in
set_option maxHeartbeats 3200000 in
theorem regT21 {u4 u5 u6 u7 u8 u9 u10 u11 u12 u13 u14 u15 u16 u17 u18 u19 u20 u21 u22 u23 u24 u25 u26 u27 u28 u29 u30 u31 u32 u33 u34 u35 u36 u37 u38 u39 u40 u41 u42 u43 u44 u45 u46 u47 u48 u49 u50 u51 u52 u53 u54 u55 u56 u57 u58 u59 u60 u61 u62 u63 u64 u65 u66 u67 u68 u69 u70 u71 u72 u73 u74 u75 u76 u77 u78 u79 u80 u81 u82 u83 u84 u85 u86 u87 u88 u89 u90 u91 u92 u93 u94 u95 u96 u97 u98 u99 u100 u101 u102 u103 u104 u105 u106 u107 u108 u109 u110 u111 u112 u113 u114 u115 u116 u117 u118 u119 u120 u121 u122 u123 u124 u125 u126 u127 u128 u129 u130 u131 u132 u133 u134 u135 u136 u137 u138 u139 u140 u141 u142 u143 u144 u145 u146 u147 u148 u149 u150 u151 u152 u153 u154 u155 u156 u157 u158 u159 u160 u161 u162 u163 u164 u165 u166 u167 u168 u169 u170 u171 u172 u173 u174 u175 u176 u177 u178 u179 u180 u181 u182 u183 u184 u185 u186 u187 u188 u189 u190 u191 u192 u193 u194 u195 u196 u197 u198 u199 u200 u201 u202 u203 u204 u205 u206 u207 u208 u209 u210 u211 u212 u213 u214 u215 u216 u217 u218 u219 u220 u221 u222 u223 u224 u225 u226 u227 u228 u229 u230 u231 u232 u233 u234 u235 u236 u237 : Value} {g len cv i i2 : Nat} {nm sj na : Bs} {w : World} {Q : Exit → Act → World → Prop} (k0 : (0 : Int) ≤ i) (k1 : (i : Int) < len) (k2 : (0 : Int) ≤ i2) (k3 : (i2 : Int) < len) (h1 : ∀ w', Pu w w' → w'.cell? ⟨g, i * 2, none⟩ = some (S nm)) (h2 : ∀ w', Pu w w' → w'.cell? ⟨g, i2 * 2 + 1, none⟩ = some (S sj)) (hN : ∀ w, Calls Tryz.prog 13 #[.agg #[S nm, S sj], S na] w fun e w' => ∃ gb, e = .returned (.pointer (some ⟨gb, 0, none⟩)) ∧ GuestAt w' gb nm sj na [] 0 ∧ w.heap.size ≤ gb ∧ Pu w w')
    (hQ : ∀ (o166 o167 o168 o169 o170 o171 o172 o173 o174 o175 o176 o177 o178 : Value) (w' : World) (gb : Nat) (_ : GuestAt w' gb nm sj na [] 0) (_ : w.heap.size ≤ gb),  Pu w w' → Q .normal ⟨#[(.slice (some ⟨g, 0, none⟩) len cv), (.int .i64 ((i : Int))), (.int .i64 ((i2 : Int))), (S na), u4, u5, u6, u7, u8, u9, u10, u11, u12, u13, u14, u15, u16, u17, u18, u19, u20, u21, u22, u23, u24, u25, (.pointer (some ⟨gb, 0, none⟩)), u27, u28, u29, u30, u31, u32, u33, u34, u35, u36, u37, u38, u39, u40, u41, u42, u43, u44, u45, u46, u47, u48, u49, u50, u51, u52, u53, u54, u55, u56, u57, u58, u59, u60, u61, u62, u63, u64, u65, u66, u67, u68, u69, u70, u71, u72, u73, u74, u75, u76, u77, u78, u79, u80, u81, u82, u83, u84, u85, u86, u87, u88, u89, u90, u91, u92, u93, u94, u95, u96, u97, u98, u99, u100, u101, u102, u103, u104, u105, u106, u107, u108, u109, u110, u111, u112, u113, u114, u115, u116, u117, u118, u119, u120, u121, u122, u123, u124, u125, u126, u127, u128, u129, u130, u131, u132, u133, u134, u135, u136, u137, u138, u139, u140, u141, u142, u143, u144, u145, u146, u147, u148, u149, u150, u151, u152, u153, u154, u155, u156, u157, u158, u159, u160, u161, u162, u163, u164, u165, o166, o167, o168, o169, o170, o171, o172, o173, o174, o175, o176, o177, o178, u179, u180, u181, u182, u183, u184, u185, u186, u187, u188, u189, u190, u191, u192, u193, u194, u195, u196, u197, u198, u199, u200, u201, u202, u203, u204, u205, u206, u207, u208, u209, u210, u211, u212, u213, u214, u215, u216, u217, u218, u219, u220, u221, u222, u223, u224, u225, u226, u227, u228, u229, u230, u231, u232, u233, u234, u235, u236, u237], []⟩ w') :
    (Code.region 21 (opsIn Tryz.f10 21) true).wp Tryz.prog Q ⟨#[(.slice (some ⟨g, 0, none⟩) len cv), (.int .i64 ((i : Int))), (.int .i64 ((i2 : Int))), (S na), u4, u5, u6, u7, u8, u9, u10, u11, u12, u13, u14, u15, u16, u17, u18, u19, u20, u21, u22, u23, u24, u25, u26, u27, u28, u29, u30, u31, u32, u33, u34, u35, u36, u37, u38, u39, u40, u41, u42, u43, u44, u45, u46, u47, u48, u49, u50, u51, u52, u53, u54, u55, u56, u57, u58, u59, u60, u61, u62, u63, u64, u65, u66, u67, u68, u69, u70, u71, u72, u73, u74, u75, u76, u77, u78, u79, u80, u81, u82, u83, u84, u85, u86, u87, u88, u89, u90, u91, u92, u93, u94, u95, u96, u97, u98, u99, u100, u101, u102, u103, u104, u105, u106, u107, u108, u109, u110, u111, u112, u113, u114, u115, u116, u117, u118, u119, u120, u121, u122, u123, u124, u125, u126, u127, u128, u129, u130, u131, u132, u133, u134, u135, u136, u137, u138, u139, u140, u141, u142, u143, u144, u145, u146, u147, u148, u149, u150, u151, u152, u153, u154, u155, u156, u157, u158, u159, u160, u161, u162, u163, u164, u165, u166, u167, u168, u169, u170, u171, u172, u173, u174, u175, u176, u177, u178, u179, u180, u181, u182, u183, u184, u185, u186, u187, u188, u189, u190, u191, u192, u193, u194, u195, u196, u197, u198, u199, u200, u201, u202, u203, u204, u205, u206, u207, u208, u209, u210, u211, u212, u213, u214, u215, u216, u217, u218, u219, u220, u221, u222, u223, u224, u225, u226, u227, u228, u229, u230, u231, u232, u233, u234, u235, u236, u237], []⟩ w := by
  dsimp only [opsIn, opsOf, Tryz.f10]
  apply region_pu (Φs := (Is _ :: Is _ :: Is _ :: Is _ :: Is _ :: Is _ :: Is _ :: Is _ :: Is _ :: Is _ :: Is _ :: Is _ :: IsPtrG w.heap.size nm sj na [] 0 :: IsPtrG w.heap.size nm sj na [] 0 :: [])) (hm := by kernel_rfl) (hE := by kernel_rfl) (hD := by kernel_rfl) (hsize := by kernel_rfl)
  case hop =>
    refine ⟨?_, ?_, ?_, ?_, ?_, ?_, ?_, ?_, ?_, ?_, ?_, ?_, ?_, ?_, trivial⟩
    · intro a' w' hs hp he
      have e0 := hs 0 (by kernel_rfl)
      try simp [Is, Region.binds] at he
      exact op_val rfl (wanted_none rfl) (by first | (go_simp; done) | (go_simp; rfl) | (simp [execOp, Act.eval, go_sem, *]; done) | (simp [execOp, Act.eval, go_sem, *]; rfl)) rfl (Pu.refl _)
    · intro a' w' hs hp he
      have e1 := hs 1 (by kernel_rfl)
      try simp [Is, Region.binds] at he
      exact op_val rfl (wanted_none rfl) (by first | (go_simp; done) | (go_simp; rfl) | (simp [execOp, Act.eval, go_sem, *]; done) | (simp [execOp, Act.eval, go_sem, *]; rfl)) rfl (Pu.refl _)
    · intro a' w' hs hp he
      try simp [Is, Region.binds] at he
      exact op_val rfl (wanted_none rfl) (by first | (go_simp; done) | (go_simp; rfl) | (simp [execOp, Act.eval, go_sem, *]; done) | (simp [execOp, Act.eval, go_sem, *]; rfl)) rfl (Pu.refl _)
    · intro a' w' hs hp he
      try simp [Is, Region.binds] at he
      exact op_val rfl (wanted_none rfl) (by first | (go_simp; done) | (go_simp; rfl) | (simp [execOp, Act.eval, go_sem, *]; done) | (simp [execOp, Act.eval, go_sem, *]; rfl)) rfl (Pu.refl _)
    · intro a' w' hs hp he
      try simp [Is, Region.binds] at he
      have hc := h1 _ hp; exact op_val rfl (wanted_none rfl) (by first | (go_simp; done) | (go_simp; rfl)) rfl (Pu.refl _)
    · intro a' w' hs hp he
      have e0 := hs 0 (by kernel_rfl)
      try simp [Is, Region.binds] at he
      exact op_val rfl (wanted_none rfl) (by first | (go_simp; done) | (go_simp; rfl) | (simp [execOp, Act.eval, go_sem, *]; done) | (simp [execOp, Act.eval, go_sem, *]; rfl)) rfl (Pu.refl _)
    · intro a' w' hs hp he
      have e2 := hs 2 (by kernel_rfl)
      try simp [Is, Region.binds] at he
      exact op_val rfl (wanted_none rfl) (by first | (go_simp; done) | (go_simp; rfl) | (simp [execOp, Act.eval, go_sem, *]; done) | (simp [execOp, Act.eval, go_sem, *]; rfl)) rfl (Pu.refl _)
    · intro a' w' hs hp he
      try simp [Is, Region.binds] at he
      exact op_val rfl (wanted_none rfl) (by first | (go_simp; done) | (go_simp; rfl) | (simp [execOp, Act.eval, go_sem, *]; done) | (simp [execOp, Act.eval, go_sem, *]; rfl)) rfl (Pu.refl _)
    · intro a' w' hs hp he
      try simp [Is, Region.binds] at he
      exact op_val rfl (wanted_none rfl) (by first | (go_simp; done) | (go_simp; rfl) | (simp [execOp, Act.eval, go_sem, *]; done) | (simp [execOp, Act.eval, go_sem, *]; rfl)) rfl (Pu.refl _)
    · intro a' w' hs hp he
      try simp [Is, Region.binds] at he
      have hc := h2 _ hp; exact op_val rfl (wanted_none rfl) (by first | (go_simp; done) | (go_simp; rfl)) rfl (Pu.refl _)
    · intro a' w' hs hp he
      try simp [Is, Region.binds] at he
      exact op_val rfl (wanted_none rfl) (by first | (go_simp; done) | (go_simp; rfl) | (simp [execOp, Act.eval, go_sem, *]; done) | (simp [execOp, Act.eval, go_sem, *]; rfl)) rfl (Pu.refl _)
    · intro a' w' hs hp he
      have e3 := hs 3 (by kernel_rfl)
      try simp [Is, Region.binds] at he
      exact op_val rfl (wanted_none rfl) (by first | (go_simp; done) | (go_simp; rfl) | (simp [execOp, Act.eval, go_sem, *]; done) | (simp [execOp, Act.eval, go_sem, *]; rfl)) rfl (Pu.refl _)
    · intro a' w' hs hp he
      try simp [Is, Region.binds] at he
      have hsz := hp.size; exact op_call rfl (wanted_none rfl) (by first | (go_simp; done) | (go_simp; rfl)) ((hN _).mono (by rintro e w'' ⟨gb, rfl, hg, hgl, hpp⟩; exact ⟨_, rfl, ⟨gb, rfl, hg, Nat.le_trans hsz hgl⟩, hpp⟩))
    · intro a' w' hs hp he
      try simp [Is, Region.binds] at he
      obtain ⟨⟨gb, hv, hg⟩, -⟩ := he; exact op_val rfl (wanted_none rfl) (by first | (go_simp; done) | (go_simp; rfl)) ⟨gb, rfl, hg⟩ (Pu.refl _)
  case hend =>
    intro a' w' hdef hsz hs hp hall
    obtain ⟨r0, r1, r2, r3, r4, r5, r6, r7, r8, r9, r10, r11, r12, r13, -⟩ := hall
    obtain ⟨g12, rv12, row12⟩ := r12
    obtain ⟨g13, rv13, row13⟩ := r13
    have hA := agree_done (agree_step (agree_step (agree_step (agree_step (agree_step (agree_step (agree_step (agree_step (agree_step (agree_step (agree_step (agree_step (agree_step (agree_step (agree_init [166, 167, 168, 169, 170, 171, 172, 173, 174, 175, 176, 177, 178, 26] hsz hs (by kernel_rfl)) r0) r1) r2) r3) r4) r5) r6) r7) r8) r9) r10) r11) rv12) rv13)
    have ha := act_of hA hdef
    rw [ha]
    clear ha hA hs hsz hdef r0 r1 r2 r3 r4 r5 r6 r7 r8 r9 r10 r11 rv12 rv13
    (try simp only [List.setIfInBounds_toArray])
    (try dsimp only [List.set_cons_zero, List.set_cons_succ])
    (try simp only [Exit.then])
    exact hQ _ _ _ _ _ _ _ _ _ _ _ _ _ _ g13 row13.1 row13.2 hp
set_option maxRecDepth 100000 in
set_option maxHeartbeats 3200000 in
theorem regT28a {u3 u4 u5 u6 u7 u8 u9 u10 u11 u12 u13 u14 u15 u16 u17 u18 u20 u21 u22 u23 u24 u28 u29 u30 u31 u32 u33 u34 u35 u36 u37 u38 u39 u40 u41 u42 u43 u44 u45 u46 u47 u48 u49 u50 u51 u52 u53 u54 u55 u56 u57 u58 u59 u60 u61 u62 u63 u64 u65 u66 u67 u68 u69 u70 u71 u72 u73 u74 u75 u76 u77 u78 u79 u80 u81 u82 u83 u84 u85 u86 u87 u88 u89 u90 u91 u92 u93 u94 u95 u96 u97 u98 u99 u100 u101 u102 u103 u104 u105 u106 u107 u108 u109 u110 u111 u112 u113 u114 u115 u116 u117 u118 u119 u120 u121 u122 u123 u124 u125 u126 u127 u128 u129 u130 u131 u132 u133 u134 u135 u136 u137 u138 u139 u140 u141 u142 u143 u144 u145 u146 u147 u148 u149 u150 u151 u152 u153 u154 u155 u156 u157 u158 u159 u160 u161 u162 u163 u164 u165 u166 u167 u168 u169 u170 u171 u172 u173 u174 u175 u176 u177 u178 u179 u180 u181 u182 u183 u184 u185 u186 u187 u188 u189 u190 u191 u192 u193 u194 u195 u196 u197 u198 u199 u200 u201 u202 u203 u204 u205 u206 u207 u208 u209 u210 u211 u212 u213 u214 u215 u216 u217 u218 u219 u220 u221 u222 u223 u224 u225 u226 u227 u228 u229 u230 u231 u232 u233 u234 u235 u236 u237 : Value} {g len cv i i2 gb hb : Nat} {hel c sc sj p : Bs} {w : World} {Q : Exit → Act → World → Prop} (k0 : (0 : Int) ≤ i) (k1 : (i : Int) < len) (k2 : (0 : Int) ≤ i2) (k3 : (i2 : Int) < len) (c2 : ¬ (9223372036854775807 < hel.length + c.length)) (h1 : ∀ w', Pu w w' → w'.cell? ⟨g, i * 2 + 1, none⟩ = some (S sc)) (h2 : ∀ w', Pu w w' → w'.cell? ⟨g, i2 * 2 + 1, none⟩ = some (S sj)) (hH : ∀ w', Pu w w' → Calls Tryz.prog 24 #[.pointer (some ⟨gb, 0, none⟩)] w' fun e w'' => e = .returned (S hel) ∧ w'' = w') (hP1 : ∀ w, Calls Tryz.prog 19 #[S sj, S (hel ++ c)] w fun e w' => e = .returned (S p) ∧ Pu w w') (hP2 : ∀ w, Calls Tryz.prog 19 #[S sc, S (hel ++ c)] w fun e w' => e = .returned (S p) ∧ Pu w w') (hD : ∀ w', Pu w w' → Calls Tryz.prog 31 #[.pointer (some ⟨hb, 0, none⟩)] w' fun e w'' => e = .returned (.bool true) ∧ w'' = w')
    (hQ : ∀ (o207 o208 o209 o210 o211 o212 o213 o214 o215 o216 o217 o218 o219 o220 o221 o222 o223 o224 o225 o226 o227 o228 o229 o230 o231 o232 o233 o234 o235 o236 o237 : Value) (w' : World), Pu w w' → Q .normal ⟨#[(.slice (some ⟨g, 0, none⟩) len cv), (.int .i64 ((i : Int))), (.int .i64 ((i2 : Int))), u3, u4, u5, u6, u7, u8, u9, u10, u11, u12, u13, (.bool true), u15, u16, u17, u18, (S c), u20, u21, u22, u23, u24, (.int .i64 (0)), (.pointer (some ⟨gb, 0, none⟩)), (.pointer (some ⟨hb, 0, none⟩)), u28, u29, u30, u31, u32, u33, u34, u35, u36, u37, u38, u39, u40, u41, u42, u43, u44, u45, u46, u47, u48, u49, u50, u51, u52, u53, u54, u55, u56, u57, u58, u59, u60, u61, u62, u63, u64, u65, u66, u67, u68, u69, u70, u71, u72, u73, u74, u75, u76, u77, u78, u79, u80, u81, u82, u83, u84, u85, u86, u87, u88, u89, u90, u91, u92, u93, u94, u95, u96, u97, u98, u99, u100, u101, u102, u103, u104, u105, u106, u107, u108, u109, u110, u111, u112, u113, u114, u115, u116, u117, u118, u119, u120, u121, u122, u123, u124, u125, u126, u127, u128, u129, u130, u131, u132, u133, u134, u135, u136, u137, u138, u139, u140, u141, u142, u143, u144, u145, u146, u147, u148, u149, u150, u151, u152, u153, u154, u155, u156, u157, u158, u159, u160, u161, u162, u163, u164, u165, u166, u167, u168, u169, u170, u171, u172, u173, u174, u175, u176, u177, u178, u179, u180, u181, u182, u183, u184, u185, u186, u187, u188, u189, u190, u191, u192, u193, u194, u195, u196, u197, u198, u199, u200, u201, u202, u203, u204, u205, u206, o207, o208, o209, o210, o211, o212, o213, o214, o215, o216, o217, o218, o219, o220, o221, o222, o223, o224, o225, o226, o227, o228, o229, o230, o231, o232, o233, o234, o235, o236, o237], []⟩ w') :
    (Code.region 28 (opsIn Tryz.f10 28) true).wp Tryz.prog Q ⟨#[(.slice (some ⟨g, 0, none⟩) len cv), (.int .i64 ((i : Int))), (.int .i64 ((i2 : Int))), u3, u4, u5, u6, u7, u8, u9, u10, u11, u12, u13, u14, u15, u16, u17, u18, (S c), u20, u21, u22, u23, u24, (.int .i64 (0)), (.pointer (some ⟨gb, 0, none⟩)), (.pointer (some ⟨hb, 0, none⟩)), u28, u29, u30, u31, u32, u33, u34, u35, u36, u37, u38, u39, u40, u41, u42, u43, u44, u45, u46, u47, u48, u49, u50, u51, u52, u53, u54, u55, u56, u57, u58, u59, u60, u61, u62, u63, u64, u65, u66, u67, u68, u69, u70, u71, u72, u73, u74, u75, u76, u77, u78, u79, u80, u81, u82, u83, u84, u85, u86, u87, u88, u89, u90, u91, u92, u93, u94, u95, u96, u97, u98, u99, u100, u101, u102, u103, u104, u105, u106, u107, u108, u109, u110, u111, u112, u113, u114, u115, u116, u117, u118, u119, u120, u121, u122, u123, u124, u125, u126, u127, u128, u129, u130, u131, u132, u133, u134, u135, u136, u137, u138, u139, u140, u141, u142, u143, u144, u145, u146, u147, u148, u149, u150, u151, u152, u153, u154, u155, u156, u157, u158, u159, u160, u161, u162, u163, u164, u165, u166, u167, u168, u169, u170, u171, u172, u173, u174, u175, u176, u177, u178, u179, u180, u181, u182, u183, u184, u185, u186, u187, u188, u189, u190, u191, u192, u193, u194, u195, u196, u197, u198, u199, u200, u201, u202, u203, u204, u205, u206, u207, u208, u209, u210, u211, u212, u213, u214, u215, u216, u217, u218, u219, u220, u221, u222, u223, u224, u225, u226, u227, u228, u229, u230, u231, u232, u233, u234, u235, u236, u237], []⟩ w := by
  dsimp only [opsIn, opsOf, Tryz.f10]
  apply region_pu (Φs := (Is _ :: Is _ :: Is _ :: Is _ :: Is _ :: Is _ :: Is _ :: Is _ :: Is _ :: Is _ :: Is _ :: Is _ :: Is _ :: Is _ :: Is _ :: Is _ :: Is _ :: Is _ :: Is _ :: Is _ :: Is _ :: Is _ :: Is _ :: Is _ :: Is _ :: Is _ :: Is _ :: Is _ :: Is _ :: Is _ :: Is _ :: Is _ :: [])) (hm := by kernel_rfl) (hE := by kernel_rfl) (hD := by kernel_rfl) (hsize := by kernel_rfl)
  case hop =>
    refine ⟨?_, ?_, ?_, ?_, ?_, ?_, ?_, ?_, ?_, ?_, ?_, ?_, ?_, ?_, ?_, ?_, ?_, ?_, ?_, ?_, ?_, ?_, ?_, ?_, ?_, ?_, ?_, ?_, ?_, ?_, ?_, ?_, trivial⟩
    · intro a' w' hs hp he
      have e25 := hs 25 (by kernel_rfl)
      try simp [Is, Region.binds] at he
      exact op_val rfl (wanted_none rfl) (by first | (go_simp; done) | (go_simp; rfl) | (simp [execOp, Act.eval, go_sem, *]; done) | (simp [execOp, Act.eval, go_sem, *]; rfl)) rfl (Pu.refl _)
    · intro a' w' hs hp he
      try simp [Is, Region.binds] at he
      exact op_val rfl (wanted_none rfl) (by first | (go_simp; done) | (go_simp; rfl) | (simp [execOp, Act.eval, go_sem, *]; done) | (simp [execOp, Act.eval, go_sem, *]; rfl)) rfl (Pu.refl _)
    · intro a' w' hs hp he
      have e0 := hs 0 (by kernel_rfl)
      try simp [Is, Region.binds] at he
      exact op_val rfl (wanted_none rfl) (by first | (go_simp; done) | (go_simp; rfl) | (simp [execOp, Act.eval, go_sem, *]; done) | (simp [execOp, Act.eval, go_sem, *]; rfl)) rfl (Pu.refl _)
    · intro a' w' hs hp he
      have e2 := hs 2 (by kernel_rfl)
      try simp [Is, Region.binds] at he
      exact op_val rfl (wanted_none rfl) (by first | (go_simp; done) | (go_simp; rfl) | (simp [execOp, Act.eval, go_sem, *]; done) | (simp [execOp, Act.eval, go_sem, *]; rfl)) rfl (Pu.refl _)
    · intro a' w' hs hp he
      try simp [Is, Region.binds] at he
      exact op_val rfl (wanted_none rfl) (by first | (go_simp; done) | (go_simp; rfl) | (simp [execOp, Act.eval, go_sem, *]; done) | (simp [execOp, Act.eval, go_sem, *]; rfl)) rfl (Pu.refl _)
    · intro a' w' hs hp he
      try simp [Is, Region.binds] at he
      exact op_val rfl (wanted_none rfl) (by first | (go_simp; done) | (go_simp; rfl) | (simp [execOp, Act.eval, go_sem, *]; done) | (simp [execOp, Act.eval, go_sem, *]; rfl)) rfl (Pu.refl _)
    · intro a' w' hs hp he
      try simp [Is, Region.binds] at he
      have hc := h2 _ hp; exact op_val rfl (wanted_none rfl) (by first | (go_simp; done) | (go_simp; rfl)) rfl (Pu.refl _)
    · intro a' w' hs hp he
      have e26 := hs 26 (by kernel_rfl)
      try simp [Is, Region.binds] at he
      exact op_val rfl (wanted_none rfl) (by first | (go_simp; done) | (go_simp; rfl) | (simp [execOp, Act.eval, go_sem, *]; done) | (simp [execOp, Act.eval, go_sem, *]; rfl)) rfl (Pu.refl _)
    · intro a' w' hs hp he
      try simp [Is, Region.binds] at he
      exact op_callP ((hH _ hp).mono (by rintro e w' ⟨rfl, rfl⟩; exact ⟨rfl, Pu.refl _⟩)) rfl (wanted_none rfl) (by first | (go_simp; done) | (go_simp; rfl)) (fun _ => rfl)
    · intro a' w' hs hp he
      have e19 := hs 19 (by kernel_rfl)
      try simp [Is, Region.binds] at he
      exact op_val rfl (wanted_none rfl) (by first | (go_simp; done) | (go_simp; rfl) | (simp [execOp, Act.eval, go_sem, *]; done) | (simp [execOp, Act.eval, go_sem, *]; rfl)) rfl (Pu.refl _)
    · intro a' w' hs hp he
      try simp [Is, Region.binds] at he
      exact op_val rfl (wanted_none rfl) (by first | (go_simp; done) | (go_simp; rfl) | (simp [execOp, Act.eval, go_sem, *]; done) | (simp [execOp, Act.eval, go_sem, *]; rfl)) rfl (Pu.refl _)
    · intro a' w' hs hp he
      try simp [Is, Region.binds] at he
      exact op_callP (hP1 _) rfl (wanted_none rfl) (by first | (go_simp; done) | (go_simp; rfl)) (fun _ => rfl)
    · intro a' w' hs hp he
      have e0 := hs 0 (by kernel_rfl)
      try simp [Is, Region.binds] at he
      exact op_val rfl (wanted_none rfl) (by first | (go_simp; done) | (go_simp; rfl) | (simp [execOp, Act.eval, go_sem, *]; done) | (simp [execOp, Act.eval, go_sem, *]; rfl)) rfl (Pu.refl _)
    · intro a' w' hs hp he
      have e1 := hs 1 (by kernel_rfl)
      try simp [Is, Region.binds] at he
      exact op_val rfl (wanted_none rfl) (by first | (go_simp; done) | (go_simp; rfl) | (simp [execOp, Act.eval, go_sem, *]; done) | (simp [execOp, Act.eval, go_sem, *]; rfl)) rfl (Pu.refl _)
    · intro a' w' hs hp he
      try simp [Is, Region.binds] at he
      exact op_val rfl (wanted_none rfl) (by first | (go_simp; done) | (go_simp; rfl) | (simp [execOp, Act.eval, go_sem, *]; done) | (simp [execOp, Act.eval, go_sem, *]; rfl)) rfl (Pu.refl _)
    · intro a' w' hs hp he
      try simp [Is, Region.binds] at he
      exact op_val rfl (wanted_none rfl) (by first | (go_simp; done) | (go_simp; rfl) | (simp [execOp, Act.eval, go_sem, *]; done) | (simp [execOp, Act.eval, go_sem, *]; rfl)) rfl (Pu.refl _)
    · intro a' w' hs hp he
      try simp [Is, Region.binds] at he
      have hc := h1 _ hp; exact op_val rfl (wanted_none rfl) (by first | (go_simp; done) | (go_simp; rfl)) rfl (Pu.refl _)
    · intro a' w' hs hp he
      have e26 := hs 26 (by kernel_rfl)
      try simp [Is, Region.binds] at he
      exact op_val rfl (wanted_none rfl) (by first | (go_simp; done) | (go_simp; rfl) | (simp [execOp, Act.eval, go_sem, *]; done) | (simp [execOp, Act.eval, go_sem, *]; rfl)) rfl (Pu.refl _)
    · intro a' w' hs hp he
      try simp [Is, Region.binds] at he
      exact op_callP ((hH _ hp).mono (by rintro e w' ⟨rfl, rfl⟩; exact ⟨rfl, Pu.refl _⟩)) rfl (wanted_none rfl) (by first | (go_simp; done) | (go_simp; rfl)) (fun _ => rfl)
    · intro a' w' hs hp he
      have e19 := hs 19 (by kernel_rfl)
      try simp [Is, Region.binds] at he
      exact op_val rfl (wanted_none rfl) (by first | (go_simp; done) | (go_simp; rfl) | (simp [execOp, Act.eval, go_sem, *]; done) | (simp [execOp, Act.eval, go_sem, *]; rfl)) rfl (Pu.refl _)
    · intro a' w' hs hp he
      try simp [Is, Region.binds] at he
      exact op_val rfl (wanted_none rfl) (by first | (go_simp; done) | (go_simp; rfl) | (simp [execOp, Act.eval, go_sem, *]; done) | (simp [execOp, Act.eval, go_sem, *]; rfl)) rfl (Pu.refl _)
    · intro a' w' hs hp he
      try simp [Is, Region.binds] at he
      exact op_callP (hP2 _) rfl (wanted_none rfl) (by first | (go_simp; done) | (go_simp; rfl)) (fun _ => rfl)
    · intro a' w' hs hp he
      try simp [Is, Region.binds] at he
      exact op_val rfl (wanted_none rfl) (by first | (go_simp; done) | (go_simp; rfl) | (simp [execOp, Act.eval, go_sem, *]; done) | (simp [execOp, Act.eval, go_sem, *]; rfl)) rfl (Pu.refl _)
    · intro a' w' hs hp he
      try simp [Is, Region.binds] at he
      exact op_val rfl (wanted_none rfl) (by first | (go_simp; done) | (go_simp; rfl) | (simp [execOp, Act.eval, go_sem, *]; done) | (simp [execOp, Act.eval, go_sem, *]; rfl)) rfl (Pu.refl _)
    · intro a' w' hs hp he
      try simp [Is, Region.binds] at he
      exact op_val rfl (wanted_none rfl) (by first | (go_simp; done) | (go_simp; rfl) | (simp [execOp, Act.eval, go_sem, *]; done) | (simp [execOp, Act.eval, go_sem, *]; rfl)) rfl (Pu.refl _)
    · intro a' w' hs hp he
      have e27 := hs 27 (by kernel_rfl)
      try simp [Is, Region.binds] at he
      first | exact op_skip rfl ((wanted_some rfl rfl (by first | (simp [he]; done) | (simp [he]; rfl))).trans rfl) rfl | exact op_val rfl ((wanted_some rfl rfl (by first | (simp [he]; done) | (simp [he]; rfl))).trans rfl) (by first | (go_simp; done) | (go_simp; rfl) | (simp [execOp, Act.eval, go_sem, *]; done) | (simp [execOp, Act.eval, go_sem, *]; rfl)) rfl (Pu.refl _)
    · intro a' w' hs hp he
      try simp [Is, Region.binds] at he
      exact op_callP ((hD _ hp).mono (by rintro e w' ⟨rfl, rfl⟩; exact ⟨rfl, Pu.refl _⟩)) rfl ((wanted_some rfl rfl (by first | (simp [he]; done) | (simp [he]; rfl))).trans rfl) (by first | (go_simp; done) | (go_simp; rfl)) (fun _ => rfl)
    · intro a' w' hs hp he
      have e25 := hs 25 (by kernel_rfl)
      try simp [Is, Region.binds] at he
      first | exact op_skip rfl ((wanted_some rfl rfl (by first | (simp [he]; done) | (simp [he]; rfl))).trans rfl) rfl | exact op_val rfl ((wanted_some rfl rfl (by first | (simp [he]; done) | (simp [he]; rfl))).trans rfl) (by first | (go_simp; done) | (go_simp; rfl) | (simp [execOp, Act.eval, go_sem, *]; done) | (simp [execOp, Act.eval, go_sem, *]; rfl)) rfl (Pu.refl _)
    · intro a' w' hs hp he
      try simp [Is, Region.binds] at he
      first | exact op_skip rfl ((wanted_some rfl rfl (by first | (simp [he]; done) | (simp [he]; rfl))).trans rfl) rfl | exact op_val rfl ((wanted_some rfl rfl (by first | (simp [he]; done) | (simp [he]; rfl))).trans rfl) (by first | (go_simp; done) | (go_simp; rfl) | (simp [execOp, Act.eval, go_sem, *]; done) | (simp [execOp, Act.eval, go_sem, *]; rfl)) rfl (Pu.refl _)
    · intro a' w' hs hp he
      try simp [Is, Region.binds] at he
      first | exact op_skip rfl ((wanted_some rfl rfl (by first | (simp [he]; done) | (simp [he]; rfl))).trans rfl) rfl | exact op_val rfl ((wanted_some rfl rfl (by first | (simp [he]; done) | (simp [he]; rfl))).trans rfl) (by first | (go_simp; done) | (go_simp; rfl) | (simp [execOp, Act.eval, go_sem, *]; done) | (simp [execOp, Act.eval, go_sem, *]; rfl)) rfl (Pu.refl _)
    · intro a' w' hs hp he
      try simp [Is, Region.binds] at he
      exact op_val rfl (wanted_none rfl) (by first | (go_simp; done) | (go_simp; rfl) | (simp [execOp, Act.eval, go_sem, *]; done) | (simp [execOp, Act.eval, go_sem, *]; rfl)) rfl (Pu.refl _)
    · intro a' w' hs hp he
      try simp [Is, Region.binds] at he
      exact op_val rfl (wanted_none rfl) (by first | (go_simp; done) | (go_simp; rfl) | (simp [execOp, Act.eval, go_sem, *]; done) | (simp [execOp, Act.eval, go_sem, *]; rfl)) rfl (Pu.refl _)
  case hend =>
    intro a' w' hdef hsz hs hp hall
    obtain ⟨r0, r1, r2, r3, r4, r5, r6, r7, r8, r9, r10, r11, r12, r13, r14, r15, r16, r17, r18, r19, r20, r21, r22, r23, r24, r25, r26, r27, r28, r29, r30, r31, -⟩ := hall
    have hA := agree_done (agree_step (agree_step (agree_step (agree_step (agree_step (agree_step (agree_step (agree_step (agree_step (agree_step (agree_step (agree_step (agree_step (agree_step (agree_step (agree_step (agree_step (agree_step (agree_step (agree_step (agree_step (agree_step (agree_step (agree_step (agree_step (agree_step (agree_step (agree_step (agree_step (agree_step (agree_step (agree_step (agree_init [207, 208, 209, 210, 211, 212, 213, 214, 215, 216, 217, 218, 219, 220, 221, 222, 223, 224, 225, 226, 227, 228, 229, 230, 231, 232, 233, 234, 235, 236, 237, 14] hsz hs (by kernel_rfl)) r0) r1) r2) r3) r4) r5) r6) r7) r8) r9) r10) r11) r12) r13) r14) r15) r16) r17) r18) r19) r20) r21) r22) r23) r24) r25) r26) r27) r28) r29) r30) r31)
    have ha := act_of hA hdef
    rw [ha]
    clear ha hA hs hsz hdef r0 r1 r2 r3 r4 r5 r6 r7 r8 r9 r10 r11 r12 r13 r14 r15 r16 r17 r18 r19 r20 r21 r22 r23 r24 r25 r26 r27 r28 r29 r30 r31 
    (try simp only [List.setIfInBounds_toArray])
    (try dsimp only [List.set_cons_zero, List.set_cons_succ])
    (try simp only [Exit.then])
    exact hQ _ _ _ _ _ _ _ _ _ _ _ _ _ _ _ _ _ _ _ _ _ _ _ _ _ _ _ _ _ _ _ _  hp
set_option maxRecDepth 100000 in
set_option maxHeartbeats 3200000 in
theorem regT28b {u3 u4 u5 u6 u7 u8 u9 u10 u11 u12 u13 u14 u15 u16 u17 u18 u20 u21 u22 u23 u24 u28 u29 u30 u31 u32 u33 u34 u35 u36 u37 u38 u39 u40 u41 u42 u43 u44 u45 u46 u47 u48 u49 u50 u51 u52 u53 u54 u55 u56 u57 u58 u59 u60 u61 u62 u63 u64 u65 u66 u67 u68 u69 u70 u71 u72 u73 u74 u75 u76 u77 u78 u79 u80 u81 u82 u83 u84 u85 u86 u87 u88 u89 u90 u91 u92 u93 u94 u95 u96 u97 u98 u99 u100 u101 u102 u103 u104 u105 u106 u107 u108 u109 u110 u111 u112 u113 u114 u115 u116 u117 u118 u119 u120 u121 u122 u123 u124 u125 u126 u127 u128 u129 u130 u131 u132 u133 u134 u135 u136 u137 u138 u139 u140 u141 u142 u143 u144 u145 u146 u147 u148 u149 u150 u151 u152 u153 u154 u155 u156 u157 u158 u159 u160 u161 u162 u163 u164 u165 u166 u167 u168 u169 u170 u171 u172 u173 u174 u175 u176 u177 u178 u179 u180 u181 u182 u183 u184 u185 u186 u187 u188 u189 u190 u191 u192 u193 u194 u195 u196 u197 u198 u199 u200 u201 u202 u203 u204 u205 u206 u207 u208 u209 u210 u211 u212 u213 u214 u215 u216 u217 u218 u219 u220 u221 u222 u223 u224 u225 u226 u227 u228 u229 u230 u231 u232 u233 u234 u235 u236 u237 : Value} {g len cv i i2 gb hb : Nat} {hel c sc sj p q : Bs} {w : World} {Q : Exit → Act → World → Prop} (k0 : (0 : Int) ≤ i) (k1 : (i : Int) < len) (k2 : (0 : Int) ≤ i2) (k3 : (i2 : Int) < len) (c2 : ¬ (9223372036854775807 < hel.length + c.length)) (hb1 : (p == q) = false) (hb2 : ¬ bs p = bs q) (h1 : ∀ w', Pu w w' → w'.cell? ⟨g, i * 2 + 1, none⟩ = some (S sc)) (h2 : ∀ w', Pu w w' → w'.cell? ⟨g, i2 * 2 + 1, none⟩ = some (S sj)) (hH : ∀ w', Pu w w' → Calls Tryz.prog 24 #[.pointer (some ⟨gb, 0, none⟩)] w' fun e w'' => e = .returned (S hel) ∧ w'' = w') (hP1 : ∀ w, Calls Tryz.prog 19 #[S sj, S (hel ++ c)] w fun e w' => e = .returned (S p) ∧ Pu w w') (hP2 : ∀ w, Calls Tryz.prog 19 #[S sc, S (hel ++ c)] w fun e w' => e = .returned (S q) ∧ Pu w w') (hD : ∀ w', Pu w w' → Calls Tryz.prog 31 #[.pointer (some ⟨hb, 0, none⟩)] w' fun e w'' => e = .returned (.bool false) ∧ w'' = w')
    (hQ : ∀ (o207 o208 o209 o210 o211 o212 o213 o214 o215 o216 o217 o218 o219 o220 o221 o222 o223 o224 o225 o226 o227 o228 o229 o230 o231 o232 o233 o234 o235 o236 o237 : Value) (w' : World), Pu w w' → Q .normal ⟨#[(.slice (some ⟨g, 0, none⟩) len cv), (.int .i64 ((i : Int))), (.int .i64 ((i2 : Int))), u3, u4, u5, u6, u7, u8, u9, u10, u11, u12, u13, (.bool true), u15, u16, u17, u18, (S c), u20, u21, u22, u23, u24, (.int .i64 (3)), (.pointer (some ⟨gb, 0, none⟩)), (.pointer (some ⟨hb, 0, none⟩)), u28, u29, u30, u31, u32, u33, u34, u35, u36, u37, u38, u39, u40, u41, u42, u43, u44, u45, u46, u47, u48, u49, u50, u51, u52, u53, u54, u55, u56, u57, u58, u59, u60, u61, u62, u63, u64, u65, u66, u67, u68, u69, u70, u71, u72, u73, u74, u75, u76, u77, u78, u79, u80, u81, u82, u83, u84, u85, u86, u87, u88, u89, u90, u91, u92, u93, u94, u95, u96, u97, u98, u99, u100, u101, u102, u103, u104, u105, u106, u107, u108, u109, u110, u111, u112, u113, u114, u115, u116, u117, u118, u119, u120, u121, u122, u123, u124, u125, u126, u127, u128, u129, u130, u131, u132, u133, u134, u135, u136, u137, u138, u139, u140, u141, u142, u143, u144, u145, u146, u147, u148, u149, u150, u151, u152, u153, u154, u155, u156, u157, u158, u159, u160, u161, u162, u163, u164, u165, u166, u167, u168, u169, u170, u171, u172, u173, u174, u175, u176, u177, u178, u179, u180, u181, u182, u183, u184, u185, u186, u187, u188, u189, u190, u191, u192, u193, u194, u195, u196, u197, u198, u199, u200, u201, u202, u203, u204, u205, u206, o207, o208, o209, o210, o211, o212, o213, o214, o215, o216, o217, o218, o219, o220, o221, o222, o223, o224, o225, o226, o227, o228, o229, o230, o231, o232, o233, o234, o235, o236, o237], []⟩ w') :
    (Code.region 28 (opsIn Tryz.f10 28) true).wp Tryz.prog Q ⟨#[(.slice (some ⟨g, 0, none⟩) len cv), (.int .i64 ((i : Int))), (.int .i64 ((i2 : Int))), u3, u4, u5, u6, u7, u8, u9, u10, u11, u12, u13, u14, u15, u16, u17, u18, (S c), u20, u21, u22, u23, u24, (.int .i64 (3)), (.pointer (some ⟨gb, 0, none⟩)), (.pointer (some ⟨hb, 0, none⟩)), u28, u29, u30, u31, u32, u33, u34, u35, u36, u37, u38, u39, u40, u41, u42, u43, u44, u45, u46, u47, u48, u49, u50, u51, u52, u53, u54, u55, u56, u57, u58, u59, u60, u61, u62, u63, u64, u65, u66, u67, u68, u69, u70, u71, u72, u73, u74, u75, u76, u77, u78, u79, u80, u81, u82, u83, u84, u85, u86, u87, u88, u89, u90, u91, u92, u93, u94, u95, u96, u97, u98, u99, u100, u101, u102, u103, u104, u105, u106, u107, u108, u109, u110, u111, u112, u113, u114, u115, u116, u117, u118, u119, u120, u121, u122, u123, u124, u125, u126, u127, u128, u129, u130, u131, u132, u133, u134, u135, u136, u137, u138, u139, u140, u141, u142, u143, u144, u145, u146, u147, u148, u149, u150, u151, u152, u153, u154, u155, u156, u157, u158, u159, u160, u161, u162, u163, u164, u165, u166, u167, u168, u169, u170, u171, u172, u173, u174, u175, u176, u177, u178, u179, u180, u181, u182, u183, u184, u185, u186, u187, u188, u189, u190, u191, u192, u193, u194, u195, u196, u197, u198, u199, u200, u201, u202, u203, u204, u205, u206, u207, u208, u209, u210, u211, u212, u213, u214, u215, u216, u217, u218, u219, u220, u221, u222, u223, u224, u225, u226, u227, u228, u229, u230, u231, u232, u233, u234, u235, u236, u237], []⟩ w := by
  dsimp only [opsIn, opsOf, Tryz.f10]
  apply region_pu (Φs := (Is _ :: Is _ :: Is _ :: Is _ :: Is _ :: Is _ :: Is _ :: Is _ :: Is _ :: Is _ :: Is _ :: Is _ :: Is _ :: Is _ :: Is _ :: Is _ :: Is _ :: Is _ :: Is _ :: Is _ :: Is _ :: Is _ :: Is _ :: Is _ :: Is _ :: Is _ :: Is _ :: Is _ :: Is _ :: Is _ :: Is _ :: Is _ :: [])) (hm := by kernel_rfl) (hE := by kernel_rfl) (hD := by kernel_rfl) (hsize := by kernel_rfl)
  case hop =>
    refine ⟨?_, ?_, ?_, ?_, ?_, ?_, ?_, ?_, ?_, ?_, ?_, ?_, ?_, ?_, ?_, ?_, ?_, ?_, ?_, ?_, ?_, ?_, ?_, ?_, ?_, ?_, ?_, ?_, ?_, ?_, ?_, ?_, trivial⟩
    · intro a' w' hs hp he
      have e25 := hs 25 (by kernel_rfl)
      try simp [Is, Region.binds] at he
      exact op_val rfl (wanted_none rfl) (by first | (go_simp; done) | (go_simp; rfl) | (simp [execOp, Act.eval, go_sem, *]; done) | (simp [execOp, Act.eval, go_sem, *]; rfl)) rfl (Pu.refl _)
    · intro a' w' hs hp he
      try simp [Is, Region.binds] at he
      exact op_val rfl (wanted_none rfl) (by first | (go_simp; done) | (go_simp; rfl) | (simp [execOp, Act.eval, go_sem, *]; done) | (simp [execOp, Act.eval, go_sem, *]; rfl)) rfl (Pu.refl _)
    · intro a' w' hs hp he
      have e0 := hs 0 (by kernel_rfl)
      try simp [Is, Region.binds] at he
      exact op_val rfl (wanted_none rfl) (by first | (go_simp; done) | (go_simp; rfl) | (simp [execOp, Act.eval, go_sem, *]; done) | (simp [execOp, Act.eval, go_sem, *]; rfl)) rfl (Pu.refl _)
    · intro a' w' hs hp he
      have e2 := hs 2 (by kernel_rfl)
      try simp [Is, Region.binds] at he
      exact op_val rfl (wanted_none rfl) (by first | (go_simp; done) | (go_simp; rfl) | (simp [execOp, Act.eval, go_sem, *]; done) | (simp [execOp, Act.eval, go_sem, *]; rfl)) rfl (Pu.refl _)
    · intro a' w' hs hp he
      try simp [Is, Region.binds] at he
      exact op_val rfl (wanted_none rfl) (by first | (go_simp; done) | (go_simp; rfl) | (simp [execOp, Act.eval, go_sem, *]; done) | (simp [execOp, Act.eval, go_sem, *]; rfl)) rfl (Pu.refl _)
    · intro a' w' hs hp he
      try simp [Is, Region.binds] at he
      exact op_val rfl (wanted_none rfl) (by first | (go_simp; done) | (go_simp; rfl) | (simp [execOp, Act.eval, go_sem, *]; done) | (simp [execOp, Act.eval, go_sem, *]; rfl)) rfl (Pu.refl _)
    · intro a' w' hs hp he
      try simp [Is, Region.binds] at he
      have hc := h2 _ hp; exact op_val rfl (wanted_none rfl) (by first | (go_simp; done) | (go_simp; rfl)) rfl (Pu.refl _)
    · intro a' w' hs hp he
      have e26 := hs 26 (by kernel_rfl)
      try simp [Is, Region.binds] at he
      exact op_val rfl (wanted_none rfl) (by first | (go_simp; done) | (go_simp; rfl) | (simp [execOp, Act.eval, go_sem, *]; done) | (simp [execOp, Act.eval, go_sem, *]; rfl)) rfl (Pu.refl _)
    · intro a' w' hs hp he
      try simp [Is, Region.binds] at he
      exact op_callP ((hH _ hp).mono (by rintro e w' ⟨rfl, rfl⟩; exact ⟨rfl, Pu.refl _⟩)) rfl (wanted_none rfl) (by first | (go_simp; done) | (go_simp; rfl)) (fun _ => rfl)
    · intro a' w' hs hp he
      have e19 := hs 19 (by kernel_rfl)
      try simp [Is, Region.binds] at he
      exact op_val rfl (wanted_none rfl) (by first | (go_simp; done) | (go_simp; rfl) | (simp [execOp, Act.eval, go_sem, *]; done) | (simp [execOp, Act.eval, go_sem, *]; rfl)) rfl (Pu.refl _)
    · intro a' w' hs hp he
      try simp [Is, Region.binds] at he
      exact op_val rfl (wanted_none rfl) (by first | (go_simp; done) | (go_simp; rfl) | (simp [execOp, Act.eval, go_sem, *]; done) | (simp [execOp, Act.eval, go_sem, *]; rfl)) rfl (Pu.refl _)
    · intro a' w' hs hp he
      try simp [Is, Region.binds] at he
      exact op_callP (hP1 _) rfl (wanted_none rfl) (by first | (go_simp; done) | (go_simp; rfl)) (fun _ => rfl)
    · intro a' w' hs hp he
      have e0 := hs 0 (by kernel_rfl)
      try simp [Is, Region.binds] at he
      exact op_val rfl (wanted_none rfl) (by first | (go_simp; done) | (go_simp; rfl) | (simp [execOp, Act.eval, go_sem, *]; done) | (simp [execOp, Act.eval, go_sem, *]; rfl)) rfl (Pu.refl _)
    · intro a' w' hs hp he
      have e1 := hs 1 (by kernel_rfl)
      try simp [Is, Region.binds] at he
      exact op_val rfl (wanted_none rfl) (by first | (go_simp; done) | (go_simp; rfl) | (simp [execOp, Act.eval, go_sem, *]; done) | (simp [execOp, Act.eval, go_sem, *]; rfl)) rfl (Pu.refl _)
    · intro a' w' hs hp he
      try simp [Is, Region.binds] at he
      exact op_val rfl (wanted_none rfl) (by first | (go_simp; done) | (go_simp; rfl) | (simp [execOp, Act.eval, go_sem, *]; done) | (simp [execOp, Act.eval, go_sem, *]; rfl)) rfl (Pu.refl _)
    · intro a' w' hs hp he
      try simp [Is, Region.binds] at he
      exact op_val rfl (wanted_none rfl) (by first | (go_simp; done) | (go_simp; rfl) | (simp [execOp, Act.eval, go_sem, *]; done) | (simp [execOp, Act.eval, go_sem, *]; rfl)) rfl (Pu.refl _)
    · intro a' w' hs hp he
      try simp [Is, Region.binds] at he
      have hc := h1 _ hp; exact op_val rfl (wanted_none rfl) (by first | (go_simp; done) | (go_simp; rfl)) rfl (Pu.refl _)
    · intro a' w' hs hp he
      have e26 := hs 26 (by kernel_rfl)
      try simp [Is, Region.binds] at he
      exact op_val rfl (wanted_none rfl) (by first | (go_simp; done) | (go_simp; rfl) | (simp [execOp, Act.eval, go_sem, *]; done) | (simp [execOp, Act.eval, go_sem, *]; rfl)) rfl (Pu.refl _)
    · intro a' w' hs hp he
      try simp [Is, Region.binds] at he
      exact op_callP ((hH _ hp).mono (by rintro e w' ⟨rfl, rfl⟩; exact ⟨rfl, Pu.refl _⟩)) rfl (wanted_none rfl) (by first | (go_simp; done) | (go_simp; rfl)) (fun _ => rfl)
    · intro a' w' hs hp he
      have e19 := hs 19 (by kernel_rfl)
      try simp [Is, Region.binds] at he
      exact op_val rfl (wanted_none rfl) (by first | (go_simp; done) | (go_simp; rfl) | (simp [execOp, Act.eval, go_sem, *]; done) | (simp [execOp, Act.eval, go_sem, *]; rfl)) rfl (Pu.refl _)
    · intro a' w' hs hp he
      try simp [Is, Region.binds] at he
      exact op_val rfl (wanted_none rfl) (by first | (go_simp; done) | (go_simp; rfl) | (simp [execOp, Act.eval, go_sem, *]; done) | (simp [execOp, Act.eval, go_sem, *]; rfl)) rfl (Pu.refl _)
    · intro a' w' hs hp he
      try simp [Is, Region.binds] at he
      exact op_callP (hP2 _) rfl (wanted_none rfl) (by first | (go_simp; done) | (go_simp; rfl)) (fun _ => rfl)
    · intro a' w' hs hp he
      try simp [Is, Region.binds] at he
      exact op_val rfl (wanted_none rfl) (by first | (go_simp; done) | (go_simp; rfl) | (simp [execOp, Act.eval, go_sem, *]; done) | (simp [execOp, Act.eval, go_sem, *]; rfl)) rfl (Pu.refl _)
    · intro a' w' hs hp he
      try simp [Is, Region.binds] at he
      exact op_val rfl (wanted_none rfl) (by first | (go_simp; done) | (go_simp; rfl) | (simp [execOp, Act.eval, go_sem, *]; done) | (simp [execOp, Act.eval, go_sem, *]; rfl)) rfl (Pu.refl _)
    · intro a' w' hs hp he
      try simp [Is, Region.binds] at he
      exact op_val rfl (wanted_none rfl) (by first | (go_simp; done) | (go_simp; rfl) | (simp [execOp, Act.eval, go_sem, *]; done) | (simp [execOp, Act.eval, go_sem, *]; rfl)) rfl (Pu.refl _)
    · intro a' w' hs hp he
      have e27 := hs 27 (by kernel_rfl)
      try simp [Is, Region.binds] at he
      first | exact op_skip rfl ((wanted_some rfl rfl (by first | (simp [he]; done) | (simp [he]; rfl))).trans rfl) rfl | exact op_val rfl ((wanted_some rfl rfl (by first | (simp [he]; done) | (simp [he]; rfl))).trans rfl) (by first | (go_simp; done) | (go_simp; rfl) | (simp [execOp, Act.eval, go_sem, *]; done) | (simp [execOp, Act.eval, go_sem, *]; rfl)) rfl (Pu.refl _)
    · intro a' w' hs hp he
      try simp [Is, Region.binds] at he
      exact op_callP ((hD _ hp).mono (by rintro e w' ⟨rfl, rfl⟩; exact ⟨rfl, Pu.refl _⟩)) rfl ((wanted_some rfl rfl (by first | (simp [he]; done) | (simp [he]; rfl))).trans rfl) (by first | (go_simp; done) | (go_simp; rfl)) (fun _ => rfl)
    · intro a' w' hs hp he
      have e25 := hs 25 (by kernel_rfl)
      try simp [Is, Region.binds] at he
      first | exact op_skip rfl ((wanted_some rfl rfl (by first | (simp [he]; done) | (simp [he]; rfl))).trans rfl) rfl | exact op_val rfl ((wanted_some rfl rfl (by first | (simp [he]; done) | (simp [he]; rfl))).trans rfl) (by first | (go_simp; done) | (go_simp; rfl) | (simp [execOp, Act.eval, go_sem, *]; done) | (simp [execOp, Act.eval, go_sem, *]; rfl)) rfl (Pu.refl _)
    · intro a' w' hs hp he
      try simp [Is, Region.binds] at he
      first | exact op_skip rfl ((wanted_some rfl rfl (by first | (simp [he]; done) | (simp [he]; rfl))).trans rfl) rfl | exact op_val rfl ((wanted_some rfl rfl (by first | (simp [he]; done) | (simp [he]; rfl))).trans rfl) (by first | (go_simp; done) | (go_simp; rfl) | (simp [execOp, Act.eval, go_sem, *]; done) | (simp [execOp, Act.eval, go_sem, *]; rfl)) rfl (Pu.refl _)
    · intro a' w' hs hp he
      try simp [Is, Region.binds] at he
      first | exact op_skip rfl ((wanted_some rfl rfl (by first | (simp [he]; done) | (simp [he]; rfl))).trans rfl) rfl | exact op_val rfl ((wanted_some rfl rfl (by first | (simp [he]; done) | (simp [he]; rfl))).trans rfl) (by first | (go_simp; done) | (go_simp; rfl) | (simp [execOp, Act.eval, go_sem, *]; done) | (simp [execOp, Act.eval, go_sem, *]; rfl)) rfl (Pu.refl _)
    · intro a' w' hs hp he
      try simp [Is, Region.binds] at he
      exact op_val rfl (wanted_none rfl) (by first | (go_simp; done) | (go_simp; rfl) | (simp [execOp, Act.eval, go_sem, *]; done) | (simp [execOp, Act.eval, go_sem, *]; rfl)) rfl (Pu.refl _)
    · intro a' w' hs hp he
      try simp [Is, Region.binds] at he
      exact op_val rfl (wanted_none rfl) (by first | (go_simp; done) | (go_simp; rfl) | (simp [execOp, Act.eval, go_sem, *]; done) | (simp [execOp, Act.eval, go_sem, *]; rfl)) rfl (Pu.refl _)
  case hend =>
    intro a' w' hdef hsz hs hp hall
    obtain ⟨r0, r1, r2, r3, r4, r5, r6, r7, r8, r9, r10, r11, r12, r13, r14, r15, r16, r17, r18, r19, r20, r21, r22, r23, r24, r25, r26, r27, r28, r29, r30, r31, -⟩ := hall
    have hA := agree_done (agree_step (agree_step (agree_step (agree_step (agree_step (agree_step (agree_step (agree_step (agree_step (agree_step (agree_step (agree_step (agree_step (agree_step (agree_step (agree_step (agree_step (agree_step (agree_step (agree_step (agree_step (agree_step (agree_step (agree_step (agree_step (agree_step (agree_step (agree_step (agree_step (agree_step (agree_step (agree_step (agree_init [207, 208, 209, 210, 211, 212, 213, 214, 215, 216, 217, 218, 219, 220, 221, 222, 223, 224, 225, 226, 227, 228, 229, 230, 231, 232, 233, 234, 235, 236, 237, 14] hsz hs (by kernel_rfl)) r0) r1) r2) r3) r4) r5) r6) r7) r8) r9) r10) r11) r12) r13) r14) r15) r16) r17) r18) r19) r20) r21) r22) r23) r24) r25) r26) r27) r28) r29) r30) r31)
    have ha := act_of hA hdef
    rw [ha]
    clear ha hA hs hsz hdef r0 r1 r2 r3 r4 r5 r6 r7 r8 r9 r10 r11 r12 r13 r14 r15 r16 r17 r18 r19 r20 r21 r22 r23 r24 r25 r26 r27 r28 r29 r30 r31 
    (try simp only [List.setIfInBounds_toArray])
    (try dsimp only [List.set_cons_zero, List.set_cons_succ])
    (try simp only [Exit.then])
    exact hQ _ _ _ _ _ _ _ _ _ _ _ _ _ _ _ _ _ _ _ _ _ _ _ _ _ _ _ _ _ _ _ _  hp
end Go.Proofs.YtlbdbmnkjljohaaGreat
