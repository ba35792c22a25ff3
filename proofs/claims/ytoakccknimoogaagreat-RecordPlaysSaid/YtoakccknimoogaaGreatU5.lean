/- Region 25 of the document's Sum. Region 26 of the document's Sum. Region 27 of the document's Sum. Region 31 of the document's Sum. -/
import Derived.Test.YtoakccknimoogaaGreatU4
set_option linter.unusedSimpArgs false
set_option linter.unusedVariables false
set_option linter.unusedSimpArgs false
set_option linter.unusedVariables false
namespace Go.Proofs.YtoakccknimoogaaGreat
open Go.RowKit Go.Esc
set_option maxRecDepth 100000 in
set_option maxHeartbeats 3200000 in
theorem reg25 {u0 u1 u2 u4 u5 u6 u8 u9 u10 u11 u12 u16 u17 u18 u19 u20 u21 u22 u23 u24 u25 u26 u27 u28 u29 u30 u31 u32 u33 u34 u35 u36 u37 u38 u39 u40 u41 u42 u43 u44 u45 u46 u47 u48 u49 u50 u51 u52 u53 u54 u55 u56 u57 u58 u59 u60 u61 u62 u63 u64 u65 u66 u67 u68 u69 u70 u71 u72 u73 u74 u75 u76 u77 u78 u79 u80 u81 u82 u83 u84 u85 u86 u87 u88 u89 u90 u91 u92 u93 u94 u95 u96 u97 u98 u99 u100 u101 u102 u103 u104 u105 u106 u107 u108 u109 u110 u111 u112 u113 u114 u115 u116 u117 u118 u119 u120 u121 u122 u123 u124 u125 u126 u127 u128 u129 u130 u131 u132 u133 u134 u135 u136 u137 u138 u139 u140 u141 u142 u143 u144 u145 u146 u147 u148 u149 u150 u151 u152 u153 u154 u155 u156 u157 u158 u159 u160 u161 u162 u163 u164 u165 u166 u167 u168 u169 u170 u171 u172 u173 u174 u175 u176 u177 u178 u179 u180 u181 u182 u183 u184 u185 u186 u187 u188 u189 u190 u191 u192 u193 u194 u195 u196 u197 u198 u199 u200 u201 u202 u203 u204 u205 u206 u207 u208 u209 u210 u211 u212 u213 u214 u215 u216 u217 u218 u219 u220 u221 u222 u223 u224 u225 u226 u227 u228 u229 u230 u231 u232 u233 u234 : Value} {g cap tb wb t : Nat} {x : St} {kn wn : Wd} (ht : t < 64) {w : World} {Q : Exit → Act → World → Prop} (hx : Row w g 108 (vs x.l)) (hk : ∀ w', Pu w w' → w'.cell? ⟨tb, t, none⟩ = some (V kn)) (hw : ∀ w', Pu w w' → w'.cell? ⟨wb, t, none⟩ = some (V wn))
 (hQ : ∀ (w' : World), Pu w w' → Q .normal ⟨#[u0, u1, u2, (.slice (some ⟨tb, 0, none⟩) 64 64), u4, u5, u6, (.pointer (some ⟨wb, 0, none⟩)), u8, u9, u10, u11, u12, (.slice (some ⟨g, 0, none⟩) 8 cap), (.int .i64 (t : Int)), (V x.e), u16, (V (t1Of x kn wn)), u18, u19, u20, u21, u22, u23, u24, u25, u26, u27, u28, u29, u30, u31, u32, u33, u34, u35, u36, u37, u38, u39, u40, u41, u42, u43, u44, u45, u46, u47, u48, u49, u50, u51, u52, u53, u54, u55, u56, u57, u58, u59, u60, u61, u62, u63, u64, u65, u66, u67, u68, u69, u70, u71, u72, u73, u74, u75, u76, u77, u78, u79, u80, u81, u82, u83, u84, u85, u86, u87, u88, u89, u90, u91, u92, u93, u94, u95, u96, u97, u98, u99, u100, u101, u102, u103, u104, u105, u106, u107, u108, u109, u110, u111, u112, u113, u114, u115, u116, (.slice (some ⟨g, 0, none⟩) 8 cap), (.pointer (some ⟨g, 7, none⟩)), (V x.h), (V x.e), (V (rotr x.e 6)), (V x.e), (V (rotr x.e 11)), (V (rotr x.e 6 ^^^ rotr x.e 11)), (V x.e), (V (rotr x.e 25)), (V (rotr x.e 6 ^^^ rotr x.e 11 ^^^ rotr x.e 25)), (V (x.h + (rotr x.e 6 ^^^ rotr x.e 11 ^^^ rotr x.e 25))), (V x.e), (.slice (some ⟨g, 0, none⟩) 8 cap), (.pointer (some ⟨g, 5, none⟩)), (V x.f), (V (x.e &&& x.f)), (V x.e), (V (~~~x.e)), (.slice (some ⟨g, 0, none⟩) 8 cap), (.pointer (some ⟨g, 6, none⟩)), (V x.g), (V (~~~x.e &&& x.g)), (V (x.e &&& x.f ^^^ ~~~x.e &&& x.g)), (V (x.h + (rotr x.e 6 ^^^ rotr x.e 11 ^^^ rotr x.e 25) + (x.e &&& x.f ^^^ ~~~x.e &&& x.g))), (.slice (some ⟨tb, 0, none⟩) 64 64), (.int .i64 (t : Int)), (.pointer (some ⟨tb, t, none⟩)), (V kn), (V (x.h + (rotr x.e 6 ^^^ rotr x.e 11 ^^^ rotr x.e 25) + (x.e &&& x.f ^^^ ~~~x.e &&& x.g) + kn)), (.int .i64 (t : Int)), (.pointer (some ⟨wb, t, none⟩)), (V wn), (V (t1Of x kn wn)), u151, u152, u153, u154, u155, u156, u157, u158, u159, u160, u161, u162, u163, u164, u165, u166, u167, u168, u169, u170, u171, u172, u173, u174, u175, u176, u177, u178, u179, u180, u181, u182, u183, u184, u185, u186, u187, u188, u189, u190, u191, u192, u193, u194, u195, u196, u197, u198, u199, u200, u201, u202, u203, u204, u205, u206, u207, u208, u209, u210, u211, u212, u213, u214, u215, u216, u217, u218, u219, u220, u221, u222, u223, u224, u225, u226, u227, u228, u229, u230, u231, u232, u233, u234], []⟩ w') :
 (Code.region 25 (opsIn Tryz.f158 25) true).wp Tryz.prog Q ⟨#[u0, u1, u2, (.slice (some ⟨tb, 0, none⟩) 64 64), u4, u5, u6, (.pointer (some ⟨wb, 0, none⟩)), u8, u9, u10, u11, u12, (.slice (some ⟨g, 0, none⟩) 8 cap), (.int .i64 (t : Int)), (V x.e), u16, u17, u18, u19, u20, u21, u22, u23, u24, u25, u26, u27, u28, u29, u30, u31, u32, u33, u34, u35, u36, u37, u38, u39, u40, u41, u42, u43, u44, u45, u46, u47, u48, u49, u50, u51, u52, u53, u54, u55, u56, u57, u58, u59, u60, u61, u62, u63, u64, u65, u66, u67, u68, u69, u70, u71, u72, u73, u74, u75, u76, u77, u78, u79, u80, u81, u82, u83, u84, u85, u86, u87, u88, u89, u90, u91, u92, u93, u94, u95, u96, u97, u98, u99, u100, u101, u102, u103, u104, u105, u106, u107, u108, u109, u110, u111, u112, u113, u114, u115, u116, u117, u118, u119, u120, u121, u122, u123, u124, u125, u126, u127, u128, u129, u130, u131, u132, u133, u134, u135, u136, u137, u138, u139, u140, u141, u142, u143, u144, u145, u146, u147, u148, u149, u150, u151, u152, u153, u154, u155, u156, u157, u158, u159, u160, u161, u162, u163, u164, u165, u166, u167, u168, u169, u170, u171, u172, u173, u174, u175, u176, u177, u178, u179, u180, u181, u182, u183, u184, u185, u186, u187, u188, u189, u190, u191, u192, u193, u194, u195, u196, u197, u198, u199, u200, u201, u202, u203, u204, u205, u206, u207, u208, u209, u210, u211, u212, u213, u214, u215, u216, u217, u218, u219, u220, u221, u222, u223, u224, u225, u226, u227, u228, u229, u230, u231, u232, u233, u234], []⟩ w := by
 dsimp only [opsIn, opsOf, Tryz.f158]
 have hcall := refLeftRun
 have hwr := wrap32_wd
 have h0 : (0 : Int) ≤ t := by omega
 have h64 : (t : Int) < 64 := by omega
 apply region_pu (Φs := (Is _ :: Is _ :: Is _ :: Is _ :: Is _ :: Is _ :: Is _ :: Is _ :: Is _ :: Is _ :: Is _ :: Is _ :: Is _ :: Is _ :: Is _ :: Is _ :: Is _ :: Is _ :: Is _ :: Is _ :: Is _ :: Is _ :: Is _ :: Is _ :: Is _ :: Is _ :: Is _ :: Is _ :: Is _ :: Is _ :: Is _ :: Is _ :: Is _ :: Is _ :: Is _ :: [])) (hm := by kernel_rfl) (hE := by kernel_rfl) (hD := by kernel_rfl) (hsize := by kernel_rfl)
 case hop =>
  refine ⟨?_, ?_, ?_, ?_, ?_, ?_, ?_, ?_, ?_, ?_, ?_, ?_, ?_, ?_, ?_, ?_, ?_, ?_, ?_, ?_, ?_, ?_, ?_, ?_, ?_, ?_, ?_, ?_, ?_, ?_, ?_, ?_, ?_, ?_, ?_, trivial⟩
  · intro a' w' hs hp he
    have e13 := hs 13 (by kernel_rfl)
    try simp [Is, Region.binds] at he
    exact op_v
  · intro a' w' hs hp he
    try simp [Is, Region.binds] at he
    exact op_v
  · intro a' w' hs hp he
    try simp [Is, Region.binds] at he
    obtain ⟨c0, c1, c2, c3, c4, c5, c6, c7⟩ := Row.st (hx.pu hp); exact op_val rfl (wanted_none rfl) (by first | (go_simp; done) | (go_simp; rfl)) rfl (Pu.refl _)
  · intro a' w' hs hp he
    have e15 := hs 15 (by kernel_rfl)
    try simp [Is, Region.binds] at he
    exact op_v
  · intro a' w' hs hp he
    try simp [Is, Region.binds] at he
    exact op_callV (refRight _ 6 (by decide) (by decide) _) rfl (wanted_none rfl) (by first | (go_simp; done) | (go_simp; rfl)) rfl
  · intro a' w' hs hp he
    have e15 := hs 15 (by kernel_rfl)
    try simp [Is, Region.binds] at he
    exact op_v
  · intro a' w' hs hp he
    try simp [Is, Region.binds] at he
    exact op_callV (refRight _ 11 (by decide) (by decide) _) rfl (wanted_none rfl) (by first | (go_simp; done) | (go_simp; rfl)) rfl
  · intro a' w' hs hp he
    try simp [Is, Region.binds] at he
    exact op_v
  · intro a' w' hs hp he
    have e15 := hs 15 (by kernel_rfl)
    try simp [Is, Region.binds] at he
    exact op_v
  · intro a' w' hs hp he
    try simp [Is, Region.binds] at he
    exact op_callV (refRight _ 25 (by decide) (by decide) _) rfl (wanted_none rfl) (by first | (go_simp; done) | (go_simp; rfl)) rfl
  · intro a' w' hs hp he
    try simp [Is, Region.binds] at he
    exact op_v
  · intro a' w' hs hp he
    try simp [Is, Region.binds] at he
    exact op_v
  · intro a' w' hs hp he
    have e15 := hs 15 (by kernel_rfl)
    try simp [Is, Region.binds] at he
    exact op_v
  · intro a' w' hs hp he
    have e13 := hs 13 (by kernel_rfl)
    try simp [Is, Region.binds] at he
    exact op_v
  · intro a' w' hs hp he
    try simp [Is, Region.binds] at he
    exact op_v
  · intro a' w' hs hp he
    try simp [Is, Region.binds] at he
    obtain ⟨c0, c1, c2, c3, c4, c5, c6, c7⟩ := Row.st (hx.pu hp); exact op_val rfl (wanted_none rfl) (by first | (go_simp; done) | (go_simp; rfl)) rfl (Pu.refl _)
  · intro a' w' hs hp he
    try simp [Is, Region.binds] at he
    exact op_v
  · intro a' w' hs hp he
    have e15 := hs 15 (by kernel_rfl)
    try simp [Is, Region.binds] at he
    exact op_v
  · intro a' w' hs hp he
    try simp [Is, Region.binds] at he
    exact op_v
  · intro a' w' hs hp he
    have e13 := hs 13 (by kernel_rfl)
    try simp [Is, Region.binds] at he
    exact op_v
  · intro a' w' hs hp he
    try simp [Is, Region.binds] at he
    exact op_v
  · intro a' w' hs hp he
    try simp [Is, Region.binds] at he
    obtain ⟨c0, c1, c2, c3, c4, c5, c6, c7⟩ := Row.st (hx.pu hp); exact op_val rfl (wanted_none rfl) (by first | (go_simp; done) | (go_simp; rfl)) rfl (Pu.refl _)
  · intro a' w' hs hp he
    try simp [Is, Region.binds] at he
    exact op_v
  · intro a' w' hs hp he
    try simp [Is, Region.binds] at he
    exact op_v
  · intro a' w' hs hp he
    try simp [Is, Region.binds] at he
    exact op_v
  · intro a' w' hs hp he
    have e3 := hs 3 (by kernel_rfl)
    try simp [Is, Region.binds] at he
    exact op_v
  · intro a' w' hs hp he
    have e14 := hs 14 (by kernel_rfl)
    try simp [Is, Region.binds] at he
    exact op_v
  · intro a' w' hs hp he
    try simp [Is, Region.binds] at he
    exact op_v
  · intro a' w' hs hp he
    try simp [Is, Region.binds] at he
    have c := hk w' hp; exact op_val rfl (wanted_none rfl) (by first | (go_simp; done) | (go_simp; rfl)) rfl (Pu.refl _)
  · intro a' w' hs hp he
    try simp [Is, Region.binds] at he
    exact op_v
  · intro a' w' hs hp he
    have e14 := hs 14 (by kernel_rfl)
    try simp [Is, Region.binds] at he
    exact op_v
  · intro a' w' hs hp he
    have e7 := hs 7 (by kernel_rfl)
    try simp [Is, Region.binds] at he
    exact op_v
  · intro a' w' hs hp he
    try simp [Is, Region.binds] at he
    have c := hw w' hp; exact op_val rfl (wanted_none rfl) (by first | (go_simp; done) | (go_simp; rfl)) rfl (Pu.refl _)
  · intro a' w' hs hp he
    try simp [Is, Region.binds] at he
    exact op_v
  · intro a' w' hs hp he
    try simp [Is, Region.binds] at he
    exact op_v
 case hend =>
  intro a' w' hdef hsz hs hp hall
  obtain ⟨r0, r1, r2, r3, r4, r5, r6, r7, r8, r9, r10, r11, r12, r13, r14, r15, r16, r17, r18, r19, r20, r21, r22, r23, r24, r25, r26, r27, r28, r29, r30, r31, r32, r33, r34, -⟩ := hall
  have hA := agree_done (agree_step (agree_step (agree_step (agree_step (agree_step (agree_step (agree_step (agree_step (agree_step (agree_step (agree_step (agree_step (agree_step (agree_step (agree_step (agree_step (agree_step (agree_step (agree_step (agree_step (agree_step (agree_step (agree_step (agree_step (agree_step (agree_step (agree_step (agree_step (agree_step (agree_step (agree_step (agree_step (agree_step (agree_step (agree_step (agree_init [117, 118, 119, 120, 121, 122, 123, 124, 125, 126, 127, 128, 129, 130, 131, 132, 133, 134, 135, 136, 137, 138, 139, 140, 141, 142, 143, 144, 145, 146, 147, 148, 149, 150, 17] hsz hs (by kernel_rfl)) r0) r1) r2) r3) r4) r5) r6) r7) r8) r9) r10) r11) r12) r13) r14) r15) r16) r17) r18) r19) r20) r21) r22) r23) r24) r25) r26) r27) r28) r29) r30) r31) r32) r33) r34)
  have ha := act_of hA hdef
  rw [ha]
  clear ha hA hs hsz hdef r0 r1 r2 r3 r4 r5 r6 r7 r8 r9 r10 r11 r12 r13 r14 r15 r16 r17 r18 r19 r20 r21 r22 r23 r24 r25 r26 r27 r28 r29 r30 r31 r32 r33 r34 
  (try simp only [List.setIfInBounds_toArray])
  (try dsimp only [List.set_cons_zero, List.set_cons_succ])
  (try simp only [Exit.then])
  exact hQ _ hp
end Go.Proofs.YtoakccknimoogaaGreat
set_option linter.unusedSimpArgs false
set_option linter.unusedVariables false
namespace Go.Proofs.YtoakccknimoogaaGreat
open Go.RowKit Go.Esc
set_option maxRecDepth 100000 in
set_option maxHeartbeats 3200000 in
theorem reg26 {u0 u1 u2 u3 u4 u5 u6 u7 u8 u9 u10 u11 u12 u14 u15 u17 u18 u19 u20 u21 u22 u23 u24 u25 u26 u27 u28 u29 u30 u31 u32 u33 u34 u35 u36 u37 u38 u39 u40 u41 u42 u43 u44 u45 u46 u47 u48 u49 u50 u51 u52 u53 u54 u55 u56 u57 u58 u59 u60 u61 u62 u63 u64 u65 u66 u67 u68 u69 u70 u71 u72 u73 u74 u75 u76 u77 u78 u79 u80 u81 u82 u83 u84 u85 u86 u87 u88 u89 u90 u91 u92 u93 u94 u95 u96 u97 u98 u99 u100 u101 u102 u103 u104 u105 u106 u107 u108 u109 u110 u111 u112 u113 u114 u115 u116 u117 u118 u119 u120 u121 u122 u123 u124 u125 u126 u127 u128 u129 u130 u131 u132 u133 u134 u135 u136 u137 u138 u139 u140 u141 u142 u143 u144 u145 u146 u147 u148 u149 u150 u151 u152 u153 u154 u155 u156 u157 u158 u159 u160 u161 u162 u163 u164 u165 u166 u167 u168 u169 u170 u171 u172 u173 u174 u175 u176 u177 u178 u179 u180 u181 u182 u183 u184 u185 u186 u187 u188 u189 u190 u191 u192 u193 u194 u195 u196 u197 u198 u199 u200 u201 u202 u203 u204 u205 u206 u207 u208 u209 u210 u211 u212 u213 u214 u215 u216 u217 u218 u219 u220 u221 u222 u223 u224 u225 u226 u227 u228 u229 u230 u231 u232 u233 u234 : Value} {g cap : Nat} {x : St} {w : World} {Q : Exit → Act → World → Prop} (hx : Row w g 108 (vs x.l))
 (hQ : ∀ (w' : World), Pu w w' → Q .normal ⟨#[u0, u1, u2, u3, u4, u5, u6, u7, u8, u9, u10, u11, u12, (.slice (some ⟨g, 0, none⟩) 8 cap), u14, u15, (V x.a), u17, (V (t2Of x)), u19, u20, u21, u22, u23, u24, u25, u26, u27, u28, u29, u30, u31, u32, u33, u34, u35, u36, u37, u38, u39, u40, u41, u42, u43, u44, u45, u46, u47, u48, u49, u50, u51, u52, u53, u54, u55, u56, u57, u58, u59, u60, u61, u62, u63, u64, u65, u66, u67, u68, u69, u70, u71, u72, u73, u74, u75, u76, u77, u78, u79, u80, u81, u82, u83, u84, u85, u86, u87, u88, u89, u90, u91, u92, u93, u94, u95, u96, u97, u98, u99, u100, u101, u102, u103, u104, u105, u106, u107, u108, u109, u110, u111, u112, u113, u114, u115, u116, u117, u118, u119, u120, u121, u122, u123, u124, u125, u126, u127, u128, u129, u130, u131, u132, u133, u134, u135, u136, u137, u138, u139, u140, u141, u142, u143, u144, u145, u146, u147, u148, u149, u150, (V x.a), (V (rotr x.a 2)), (V x.a), (V (rotr x.a 13)), (V (rotr x.a 2 ^^^ rotr x.a 13)), (V x.a), (V (rotr x.a 22)), (V (rotr x.a 2 ^^^ rotr x.a 13 ^^^ rotr x.a 22)), (V x.a), (.slice (some ⟨g, 0, none⟩) 8 cap), (.pointer (some ⟨g, 1, none⟩)), (V x.b), (V (x.a &&& x.b)), (V x.a), (.slice (some ⟨g, 0, none⟩) 8 cap), (.pointer (some ⟨g, 2, none⟩)), (V x.c), (V (x.a &&& x.c)), (V (x.a &&& x.b ^^^ x.a &&& x.c)), (.slice (some ⟨g, 0, none⟩) 8 cap), (.pointer (some ⟨g, 1, none⟩)), (V x.b), (.slice (some ⟨g, 0, none⟩) 8 cap), (.pointer (some ⟨g, 2, none⟩)), (V x.c), (V (x.b &&& x.c)), (V (x.a &&& x.b ^^^ x.a &&& x.c ^^^ x.b &&& x.c)), (V (t2Of x)), u179, u180, u181, u182, u183, u184, u185, u186, u187, u188, u189, u190, u191, u192, u193, u194, u195, u196, u197, u198, u199, u200, u201, u202, u203, u204, u205, u206, u207, u208, u209, u210, u211, u212, u213, u214, u215, u216, u217, u218, u219, u220, u221, u222, u223, u224, u225, u226, u227, u228, u229, u230, u231, u232, u233, u234], []⟩ w') :
 (Code.region 26 (opsIn Tryz.f158 26) true).wp Tryz.prog Q ⟨#[u0, u1, u2, u3, u4, u5, u6, u7, u8, u9, u10, u11, u12, (.slice (some ⟨g, 0, none⟩) 8 cap), u14, u15, (V x.a), u17, u18, u19, u20, u21, u22, u23, u24, u25, u26, u27, u28, u29, u30, u31, u32, u33, u34, u35, u36, u37, u38, u39, u40, u41, u42, u43, u44, u45, u46, u47, u48, u49, u50, u51, u52, u53, u54, u55, u56, u57, u58, u59, u60, u61, u62, u63, u64, u65, u66, u67, u68, u69, u70, u71, u72, u73, u74, u75, u76, u77, u78, u79, u80, u81, u82, u83, u84, u85, u86, u87, u88, u89, u90, u91, u92, u93, u94, u95, u96, u97, u98, u99, u100, u101, u102, u103, u104, u105, u106, u107, u108, u109, u110, u111, u112, u113, u114, u115, u116, u117, u118, u119, u120, u121, u122, u123, u124, u125, u126, u127, u128, u129, u130, u131, u132, u133, u134, u135, u136, u137, u138, u139, u140, u141, u142, u143, u144, u145, u146, u147, u148, u149, u150, u151, u152, u153, u154, u155, u156, u157, u158, u159, u160, u161, u162, u163, u164, u165, u166, u167, u168, u169, u170, u171, u172, u173, u174, u175, u176, u177, u178, u179, u180, u181, u182, u183, u184, u185, u186, u187, u188, u189, u190, u191, u192, u193, u194, u195, u196, u197, u198, u199, u200, u201, u202, u203, u204, u205, u206, u207, u208, u209, u210, u211, u212, u213, u214, u215, u216, u217, u218, u219, u220, u221, u222, u223, u224, u225, u226, u227, u228, u229, u230, u231, u232, u233, u234], []⟩ w := by
 dsimp only [opsIn, opsOf, Tryz.f158]
 have hcall := refLeftRun
 have hwr := wrap32_wd
 apply region_pu (Φs := (Is _ :: Is _ :: Is _ :: Is _ :: Is _ :: Is _ :: Is _ :: Is _ :: Is _ :: Is _ :: Is _ :: Is _ :: Is _ :: Is _ :: Is _ :: Is _ :: Is _ :: Is _ :: Is _ :: Is _ :: Is _ :: Is _ :: Is _ :: Is _ :: Is _ :: Is _ :: Is _ :: Is _ :: Is _ :: [])) (hm := by kernel_rfl) (hE := by kernel_rfl) (hD := by kernel_rfl) (hsize := by kernel_rfl)
 case hop =>
  refine ⟨?_, ?_, ?_, ?_, ?_, ?_, ?_, ?_, ?_, ?_, ?_, ?_, ?_, ?_, ?_, ?_, ?_, ?_, ?_, ?_, ?_, ?_, ?_, ?_, ?_, ?_, ?_, ?_, ?_, trivial⟩
  · intro a' w' hs hp he
    have e16 := hs 16 (by kernel_rfl)
    try simp [Is, Region.binds] at he
    exact op_v
  · intro a' w' hs hp he
    try simp [Is, Region.binds] at he
    exact op_callV (refRight _ 2 (by decide) (by decide) _) rfl (wanted_none rfl) (by first | (go_simp; done) | (go_simp; rfl)) rfl
  · intro a' w' hs hp he
    have e16 := hs 16 (by kernel_rfl)
    try simp [Is, Region.binds] at he
    exact op_v
  · intro a' w' hs hp he
    try simp [Is, Region.binds] at he
    exact op_callV (refRight _ 13 (by decide) (by decide) _) rfl (wanted_none rfl) (by first | (go_simp; done) | (go_simp; rfl)) rfl
  · intro a' w' hs hp he
    try simp [Is, Region.binds] at he
    exact op_v
  · intro a' w' hs hp he
    have e16 := hs 16 (by kernel_rfl)
    try simp [Is, Region.binds] at he
    exact op_v
  · intro a' w' hs hp he
    try simp [Is, Region.binds] at he
    exact op_callV (refRight _ 22 (by decide) (by decide) _) rfl (wanted_none rfl) (by first | (go_simp; done) | (go_simp; rfl)) rfl
  · intro a' w' hs hp he
    try simp [Is, Region.binds] at he
    exact op_v
  · intro a' w' hs hp he
    have e16 := hs 16 (by kernel_rfl)
    try simp [Is, Region.binds] at he
    exact op_v
  · intro a' w' hs hp he
    have e13 := hs 13 (by kernel_rfl)
    try simp [Is, Region.binds] at he
    exact op_v
  · intro a' w' hs hp he
    try simp [Is, Region.binds] at he
    exact op_v
  · intro a' w' hs hp he
    try simp [Is, Region.binds] at he
    obtain ⟨c0, c1, c2, c3, c4, c5, c6, c7⟩ := Row.st (hx.pu hp); exact op_val rfl (wanted_none rfl) (by first | (go_simp; done) | (go_simp; rfl)) rfl (Pu.refl _)
  · intro a' w' hs hp he
    try simp [Is, Region.binds] at he
    exact op_v
  · intro a' w' hs hp he
    have e16 := hs 16 (by kernel_rfl)
    try simp [Is, Region.binds] at he
    exact op_v
  · intro a' w' hs hp he
    have e13 := hs 13 (by kernel_rfl)
    try simp [Is, Region.binds] at he
    exact op_v
  · intro a' w' hs hp he
    try simp [Is, Region.binds] at he
    exact op_v
  · intro a' w' hs hp he
    try simp [Is, Region.binds] at he
    obtain ⟨c0, c1, c2, c3, c4, c5, c6, c7⟩ := Row.st (hx.pu hp); exact op_val rfl (wanted_none rfl) (by first | (go_simp; done) | (go_simp; rfl)) rfl (Pu.refl _)
  · intro a' w' hs hp he
    try simp [Is, Region.binds] at he
    exact op_v
  · intro a' w' hs hp he
    try simp [Is, Region.binds] at he
    exact op_v
  · intro a' w' hs hp he
    have e13 := hs 13 (by kernel_rfl)
    try simp [Is, Region.binds] at he
    exact op_v
  · intro a' w' hs hp he
    try simp [Is, Region.binds] at he
    exact op_v
  · intro a' w' hs hp he
    try simp [Is, Region.binds] at he
    obtain ⟨c0, c1, c2, c3, c4, c5, c6, c7⟩ := Row.st (hx.pu hp); exact op_val rfl (wanted_none rfl) (by first | (go_simp; done) | (go_simp; rfl)) rfl (Pu.refl _)
  · intro a' w' hs hp he
    have e13 := hs 13 (by kernel_rfl)
    try simp [Is, Region.binds] at he
    exact op_v
  · intro a' w' hs hp he
    try simp [Is, Region.binds] at he
    exact op_v
  · intro a' w' hs hp he
    try simp [Is, Region.binds] at he
    obtain ⟨c0, c1, c2, c3, c4, c5, c6, c7⟩ := Row.st (hx.pu hp); exact op_val rfl (wanted_none rfl) (by first | (go_simp; done) | (go_simp; rfl)) rfl (Pu.refl _)
  · intro a' w' hs hp he
    try simp [Is, Region.binds] at he
    exact op_v
  · intro a' w' hs hp he
    try simp [Is, Region.binds] at he
    exact op_v
  · intro a' w' hs hp he
    try simp [Is, Region.binds] at he
    exact op_v
  · intro a' w' hs hp he
    try simp [Is, Region.binds] at he
    exact op_v
 case hend =>
  intro a' w' hdef hsz hs hp hall
  obtain ⟨r0, r1, r2, r3, r4, r5, r6, r7, r8, r9, r10, r11, r12, r13, r14, r15, r16, r17, r18, r19, r20, r21, r22, r23, r24, r25, r26, r27, r28, -⟩ := hall
  have hA := agree_done (agree_step (agree_step (agree_step (agree_step (agree_step (agree_step (agree_step (agree_step (agree_step (agree_step (agree_step (agree_step (agree_step (agree_step (agree_step (agree_step (agree_step (agree_step (agree_step (agree_step (agree_step (agree_step (agree_step (agree_step (agree_step (agree_step (agree_step (agree_step (agree_step (agree_init [151, 152, 153, 154, 155, 156, 157, 158, 159, 160, 161, 162, 163, 164, 165, 166, 167, 168, 169, 170, 171, 172, 173, 174, 175, 176, 177, 178, 18] hsz hs (by kernel_rfl)) r0) r1) r2) r3) r4) r5) r6) r7) r8) r9) r10) r11) r12) r13) r14) r15) r16) r17) r18) r19) r20) r21) r22) r23) r24) r25) r26) r27) r28)
  have ha := act_of hA hdef
  rw [ha]
  clear ha hA hs hsz hdef r0 r1 r2 r3 r4 r5 r6 r7 r8 r9 r10 r11 r12 r13 r14 r15 r16 r17 r18 r19 r20 r21 r22 r23 r24 r25 r26 r27 r28 
  (try simp only [List.setIfInBounds_toArray])
  (try dsimp only [List.set_cons_zero, List.set_cons_succ])
  (try simp only [Exit.then])
  exact hQ _ hp
end Go.Proofs.YtoakccknimoogaaGreat
set_option linter.unusedSimpArgs false
set_option linter.unusedVariables false
namespace Go.Proofs.YtoakccknimoogaaGreat
open Go.RowKit Go.Esc
set_option maxRecDepth 100000 in
set_option maxHeartbeats 3200000 in
theorem reg27 {u0 u1 u2 u3 u4 u5 u6 u7 u8 u9 u10 u11 u12 u14 u15 u16 u19 u20 u21 u22 u23 u24 u25 u26 u27 u28 u29 u30 u31 u32 u33 u34 u35 u36 u37 u38 u39 u40 u41 u42 u43 u44 u45 u46 u47 u48 u49 u50 u51 u52 u53 u54 u55 u56 u57 u58 u59 u60 u61 u62 u63 u64 u65 u66 u67 u68 u69 u70 u71 u72 u73 u74 u75 u76 u77 u78 u79 u80 u81 u82 u83 u84 u85 u86 u87 u88 u89 u90 u91 u92 u93 u94 u95 u96 u97 u98 u99 u100 u101 u102 u103 u104 u105 u106 u107 u108 u109 u110 u111 u112 u113 u114 u115 u116 u117 u118 u119 u120 u121 u122 u123 u124 u125 u126 u127 u128 u129 u130 u131 u132 u133 u134 u135 u136 u137 u138 u139 u140 u141 u142 u143 u144 u145 u146 u147 u148 u149 u150 u151 u152 u153 u154 u155 u156 u157 u158 u159 u160 u161 u162 u163 u164 u165 u166 u167 u168 u169 u170 u171 u172 u173 u174 u175 u176 u177 u178 u179 u180 u181 u182 u183 u184 u185 u186 u187 u188 u189 u190 u191 u192 u193 u194 u195 u196 u197 u198 u199 u200 u201 u202 u203 u204 u205 u206 u207 u208 u209 u210 u211 u212 u213 u214 u215 u216 u217 u218 u219 u220 u221 u222 u223 u224 u225 u226 u227 u228 u229 u230 u231 u232 u233 u234 : Value} {g cap : Nat} {x : St} {T1 T2 : Wd} {w : World} {Q : Exit → Act → World → Prop} (hx : Row w g 108 (vs x.l))
 (hQ : ∀ (w' : World) (k c : Nat), Row w' k 108 (row27 x T1 T2) → w.heap.size ≤ k → Pu w w' → Q .normal ⟨#[u0, u1, u2, u3, u4, u5, u6, u7, u8, u9, u10, u11, u12, (.slice (some ⟨k, 0, none⟩) 8 c), u14, u15, u16, (V T1), (V T2), u19, u20, u21, u22, u23, u24, u25, u26, u27, u28, u29, u30, u31, u32, u33, u34, u35, u36, u37, u38, u39, u40, u41, u42, u43, u44, u45, u46, u47, u48, u49, u50, u51, u52, u53, u54, u55, u56, u57, u58, u59, u60, u61, u62, u63, u64, u65, u66, u67, u68, u69, u70, u71, u72, u73, u74, u75, u76, u77, u78, u79, u80, u81, u82, u83, u84, u85, u86, u87, u88, u89, u90, u91, u92, u93, u94, u95, u96, u97, u98, u99, u100, u101, u102, u103, u104, u105, u106, u107, u108, u109, u110, u111, u112, u113, u114, u115, u116, u117, u118, u119, u120, u121, u122, u123, u124, u125, u126, u127, u128, u129, u130, u131, u132, u133, u134, u135, u136, u137, u138, u139, u140, u141, u142, u143, u144, u145, u146, u147, u148, u149, u150, u151, u152, u153, u154, u155, u156, u157, u158, u159, u160, u161, u162, u163, u164, u165, u166, u167, u168, u169, u170, u171, u172, u173, u174, u175, u176, u177, u178, (V T1), (V T2), (V (T1 + T2)), (.slice (some ⟨g, 0, none⟩) 8 cap), (.pointer (some ⟨g, 0, none⟩)), (V x.a), (.slice (some ⟨g, 0, none⟩) 8 cap), (.pointer (some ⟨g, 1, none⟩)), (V x.b), (.slice (some ⟨g, 0, none⟩) 8 cap), (.pointer (some ⟨g, 2, none⟩)), (V x.c), (.slice (some ⟨g, 0, none⟩) 8 cap), (.pointer (some ⟨g, 3, none⟩)), (V x.d), (V T1), (V (x.d + T1)), (.slice (some ⟨g, 0, none⟩) 8 cap), (.pointer (some ⟨g, 4, none⟩)), (V x.e), (.slice (some ⟨g, 0, none⟩) 8 cap), (.pointer (some ⟨g, 5, none⟩)), (V x.f), (.slice (some ⟨g, 0, none⟩) 8 cap), (.pointer (some ⟨g, 6, none⟩)), (V x.g), (.slice (some ⟨k, 0, none⟩) 8 c), u206, u207, u208, u209, u210, u211, u212, u213, u214, u215, u216, u217, u218, u219, u220, u221, u222, u223, u224, u225, u226, u227, u228, u229, u230, u231, u232, u233, u234], []⟩ w') :
 (Code.region 27 (opsIn Tryz.f158 27) true).wp Tryz.prog Q ⟨#[u0, u1, u2, u3, u4, u5, u6, u7, u8, u9, u10, u11, u12, (.slice (some ⟨g, 0, none⟩) 8 cap), u14, u15, u16, (V T1), (V T2), u19, u20, u21, u22, u23, u24, u25, u26, u27, u28, u29, u30, u31, u32, u33, u34, u35, u36, u37, u38, u39, u40, u41, u42, u43, u44, u45, u46, u47, u48, u49, u50, u51, u52, u53, u54, u55, u56, u57, u58, u59, u60, u61, u62, u63, u64, u65, u66, u67, u68, u69, u70, u71, u72, u73, u74, u75, u76, u77, u78, u79, u80, u81, u82, u83, u84, u85, u86, u87, u88, u89, u90, u91, u92, u93, u94, u95, u96, u97, u98, u99, u100, u101, u102, u103, u104, u105, u106, u107, u108, u109, u110, u111, u112, u113, u114, u115, u116, u117, u118, u119, u120, u121, u122, u123, u124, u125, u126, u127, u128, u129, u130, u131, u132, u133, u134, u135, u136, u137, u138, u139, u140, u141, u142, u143, u144, u145, u146, u147, u148, u149, u150, u151, u152, u153, u154, u155, u156, u157, u158, u159, u160, u161, u162, u163, u164, u165, u166, u167, u168, u169, u170, u171, u172, u173, u174, u175, u176, u177, u178, u179, u180, u181, u182, u183, u184, u185, u186, u187, u188, u189, u190, u191, u192, u193, u194, u195, u196, u197, u198, u199, u200, u201, u202, u203, u204, u205, u206, u207, u208, u209, u210, u211, u212, u213, u214, u215, u216, u217, u218, u219, u220, u221, u222, u223, u224, u225, u226, u227, u228, u229, u230, u231, u232, u233, u234], []⟩ w := by
 dsimp only [opsIn, opsOf, Tryz.f158]
 obtain ⟨gg, hg1, hg2⟩ : ∃ gg, w.heap.size ≤ gg ∧ gg ≤ w.heap.size := ⟨_, Nat.le_refl _, Nat.le_refl _⟩
 apply region_writer (g := gg) (n := 27) (hn := by kernel_rfl) (hlast := rfl) (hU := by kernel_rfl) (Φ1 := (Is _ :: Is _ :: Is _ :: Is _ :: Is _ :: Is _ :: Is _ :: Is _ :: Is _ :: Is _ :: Is _ :: Is _ :: Is _ :: Is _ :: Is _ :: Is _ :: Is _ :: Is _ :: Is _ :: Is _ :: Is _ :: Is _ :: Is _ :: Is _ :: Is _ :: Is _ :: [])) (Φm := IsRowF gg 108 8 (row27 x T1 T2)) (Φ2 := ([])) (hm := by kernel_rfl) (hE := by kernel_rfl) (hD := by kernel_rfl) (hsize := by kernel_rfl)
 case hop =>
  refine ⟨?_, ?_, ?_, ?_, ?_, ?_, ?_, ?_, ?_, ?_, ?_, ?_, ?_, ?_, ?_, ?_, ?_, ?_, ?_, ?_, ?_, ?_, ?_, ?_, ?_, ?_, ?_, trivial⟩
  · intro a' w' hs hp he
    have hp : But gg _ w' := hp
    have e17 := hs 17 (by kernel_rfl)
    try simp [Is, Region.binds] at he
    exact op_v
  · intro a' w' hs hp he
    have hp : But gg _ w' := hp
    have e18 := hs 18 (by kernel_rfl)
    try simp [Is, Region.binds] at he
    exact op_v
  · intro a' w' hs hp he
    have hp : But gg _ w' := hp
    try simp [Is, Region.binds] at he
    exact op_v
  · intro a' w' hs hp he
    have hp : But gg _ w' := hp
    have e13 := hs 13 (by kernel_rfl)
    try simp [Is, Region.binds] at he
    exact op_v
  · intro a' w' hs hp he
    have hp : But gg _ w' := hp
    try simp [Is, Region.binds] at he
    exact op_v
  · intro a' w' hs hp he
    have hp : But gg _ w' := hp
    try simp [Is, Region.binds] at he
    obtain ⟨c0, c1, c2, c3, c4, c5, c6, c7⟩ := Row.st (hx.pu (hp.toPu hg1)); exact op_val rfl (wanted_none rfl) (by first | (go_simp; done) | (go_simp; rfl)) rfl (Pu.refl _)
  · intro a' w' hs hp he
    have hp : But gg _ w' := hp
    have e13 := hs 13 (by kernel_rfl)
    try simp [Is, Region.binds] at he
    exact op_v
  · intro a' w' hs hp he
    have hp : But gg _ w' := hp
    try simp [Is, Region.binds] at he
    exact op_v
  · intro a' w' hs hp he
    have hp : But gg _ w' := hp
    try simp [Is, Region.binds] at he
    obtain ⟨c0, c1, c2, c3, c4, c5, c6, c7⟩ := Row.st (hx.pu (hp.toPu hg1)); exact op_val rfl (wanted_none rfl) (by first | (go_simp; done) | (go_simp; rfl)) rfl (Pu.refl _)
  · intro a' w' hs hp he
    have hp : But gg _ w' := hp
    have e13 := hs 13 (by kernel_rfl)
    try simp [Is, Region.binds] at he
    exact op_v
  · intro a' w' hs hp he
    have hp : But gg _ w' := hp
    try simp [Is, Region.binds] at he
    exact op_v
  · intro a' w' hs hp he
    have hp : But gg _ w' := hp
    try simp [Is, Region.binds] at he
    obtain ⟨c0, c1, c2, c3, c4, c5, c6, c7⟩ := Row.st (hx.pu (hp.toPu hg1)); exact op_val rfl (wanted_none rfl) (by first | (go_simp; done) | (go_simp; rfl)) rfl (Pu.refl _)
  · intro a' w' hs hp he
    have hp : But gg _ w' := hp
    have e13 := hs 13 (by kernel_rfl)
    try simp [Is, Region.binds] at he
    exact op_v
  · intro a' w' hs hp he
    have hp : But gg _ w' := hp
    try simp [Is, Region.binds] at he
    exact op_v
  · intro a' w' hs hp he
    have hp : But gg _ w' := hp
    try simp [Is, Region.binds] at he
    obtain ⟨c0, c1, c2, c3, c4, c5, c6, c7⟩ := Row.st (hx.pu (hp.toPu hg1)); exact op_val rfl (wanted_none rfl) (by first | (go_simp; done) | (go_simp; rfl)) rfl (Pu.refl _)
  · intro a' w' hs hp he
    have hp : But gg _ w' := hp
    have e17 := hs 17 (by kernel_rfl)
    try simp [Is, Region.binds] at he
    exact op_v
  · intro a' w' hs hp he
    have hp : But gg _ w' := hp
    try simp [Is, Region.binds] at he
    exact op_v
  · intro a' w' hs hp he
    have hp : But gg _ w' := hp
    have e13 := hs 13 (by kernel_rfl)
    try simp [Is, Region.binds] at he
    exact op_v
  · intro a' w' hs hp he
    have hp : But gg _ w' := hp
    try simp [Is, Region.binds] at he
    exact op_v
  · intro a' w' hs hp he
    have hp : But gg _ w' := hp
    try simp [Is, Region.binds] at he
    obtain ⟨c0, c1, c2, c3, c4, c5, c6, c7⟩ := Row.st (hx.pu (hp.toPu hg1)); exact op_val rfl (wanted_none rfl) (by first | (go_simp; done) | (go_simp; rfl)) rfl (Pu.refl _)
  · intro a' w' hs hp he
    have hp : But gg _ w' := hp
    have e13 := hs 13 (by kernel_rfl)
    try simp [Is, Region.binds] at he
    exact op_v
  · intro a' w' hs hp he
    have hp : But gg _ w' := hp
    try simp [Is, Region.binds] at he
    exact op_v
  · intro a' w' hs hp he
    have hp : But gg _ w' := hp
    try simp [Is, Region.binds] at he
    obtain ⟨c0, c1, c2, c3, c4, c5, c6, c7⟩ := Row.st (hx.pu (hp.toPu hg1)); exact op_val rfl (wanted_none rfl) (by first | (go_simp; done) | (go_simp; rfl)) rfl (Pu.refl _)
  · intro a' w' hs hp he
    have hp : But gg _ w' := hp
    have e13 := hs 13 (by kernel_rfl)
    try simp [Is, Region.binds] at he
    exact op_v
  · intro a' w' hs hp he
    have hp : But gg _ w' := hp
    try simp [Is, Region.binds] at he
    exact op_v
  · intro a' w' hs hp he
    have hp : But gg _ w' := hp
    try simp [Is, Region.binds] at he
    obtain ⟨c0, c1, c2, c3, c4, c5, c6, c7⟩ := Row.st (hx.pu (hp.toPu hg1)); exact op_val rfl (wanted_none rfl) (by first | (go_simp; done) | (go_simp; rfl)) rfl (Pu.refl _)
  · intro a' w' hs hp he
    have hp : Pu _ w' := hp
    try simp [Is, Region.binds] at he
    refine op_valB rfl (wanted_none rfl) (by go_simp; exact ⟨rfl, rfl⟩) ?_ (But.pu ((Pu.refl _).alloc _)); exact ⟨_, _, rfl, Row.newAt _ _ _ _ rfl rfl, Nat.le_trans hg2 hp.size⟩
 case hend =>
  intro a' w' hdef hsz hs hp hall
  obtain ⟨r0, r1, r2, r3, r4, r5, r6, r7, r8, r9, r10, r11, r12, r13, r14, r15, r16, r17, r18, r19, r20, r21, r22, r23, r24, r25, r26, -⟩ := hall
  obtain ⟨g26, cap26, rv26, row26⟩ := r26
  have hA := agree_done (agree_step (agree_step (agree_step (agree_step (agree_step (agree_step (agree_step (agree_step (agree_step (agree_step (agree_step (agree_step (agree_step (agree_step (agree_step (agree_step (agree_step (agree_step (agree_step (agree_step (agree_step (agree_step (agree_step (agree_step (agree_step (agree_step (agree_step (agree_initL [179, 180, 181, 182, 183, 184, 185, 186, 187, 188, 189, 190, 191, 192, 193, 194, 195, 196, 197, 198, 199, 200, 201, 202, 203, 204, 205] hsz hs (by kernel_rfl)) r0) r1) r2) r3) r4) r5) r6) r7) r8) r9) r10) r11) r12) r13) r14) r15) r16) r17) r18) r19) r20) r21) r22) r23) r24) r25) rv26)
  have ha := act_of hA hdef
  rw [ha]
  clear ha hA hs hsz hdef r0 r1 r2 r3 r4 r5 r6 r7 r8 r9 r10 r11 r12 r13 r14 r15 r16 r17 r18 r19 r20 r21 r22 r23 r24 r25 rv26
  (try simp only [List.setIfInBounds_toArray])
  (try dsimp only [List.set_cons_zero, List.set_cons_succ])
  (try simp only [Exit.then])
  refine op_run rfl (wanted_none rfl) (by go_simp; exact ⟨rfl, rfl⟩) ?_
  (try simp only [Exit.inBlock, Exit.then])
  exact hQ _ _ _ row26.1 (Nat.le_trans hg1 row26.2) (hp.toPu hg1)
end Go.Proofs.YtoakccknimoogaaGreat
set_option linter.unusedSimpArgs false
set_option linter.unusedVariables false
namespace Go.Proofs.YtoakccknimoogaaGreat
open Go.RowKit Go.Esc
set_option maxRecDepth 100000 in
set_option maxHeartbeats 3200000 in
theorem reg31 {u0 u1 u2 u3 u5 u6 u7 u8 u9 u10 u11 u12 u14 u15 u16 u17 u18 u20 u21 u22 u23 u24 u25 u26 u27 u28 u29 u30 u31 u32 u33 u34 u35 u36 u37 u38 u39 u40 u41 u42 u43 u44 u45 u46 u47 u48 u49 u50 u51 u52 u53 u54 u55 u56 u57 u58 u59 u60 u61 u62 u63 u64 u65 u66 u67 u68 u69 u70 u71 u72 u73 u74 u75 u76 u77 u78 u79 u80 u81 u82 u83 u84 u85 u86 u87 u88 u89 u90 u91 u92 u93 u94 u95 u96 u97 u98 u99 u100 u101 u102 u103 u104 u105 u106 u107 u108 u109 u110 u111 u112 u113 u114 u115 u116 u117 u118 u119 u120 u121 u122 u123 u124 u125 u126 u127 u128 u129 u130 u131 u132 u133 u134 u135 u136 u137 u138 u139 u140 u141 u142 u143 u144 u145 u146 u147 u148 u149 u150 u151 u152 u153 u154 u155 u156 u157 u158 u159 u160 u161 u162 u163 u164 u165 u166 u167 u168 u169 u170 u171 u172 u173 u174 u175 u176 u177 u178 u179 u180 u181 u182 u183 u184 u185 u186 u187 u188 u189 u190 u191 u192 u193 u194 u195 u196 u197 u198 u199 u200 u201 u202 u203 u204 u205 u206 u207 u208 u209 u210 u211 u212 u213 u214 u215 u216 u217 u218 u219 u220 u221 u222 u223 u224 u225 u226 u227 u228 u229 u230 u231 u232 u233 u234 : Value} {g cap hb j : Nat} {xm sm : Wd} (hj : j < 8) {w : World} {Q : Exit → Act → World → Prop} (h1 : ∀ w', Pu w w' → w'.cell? ⟨hb, j, none⟩ = some (V sm)) (h2 : ∀ w', Pu w w' → w'.cell? ⟨g, j, none⟩ = some (V xm)) (h4 : ∀ w', Pu w w' → w'.frozen? ⟨hb, j, none⟩ = false)
 (hQ : ∀ (w' : World), Pu w w' → Q .normal ⟨#[u0, u1, u2, u3, (.slice (some ⟨hb, 0, none⟩) 8 8), u5, u6, u7, u8, u9, u10, u11, u12, (.slice (some ⟨g, 0, none⟩) 8 cap), u14, u15, u16, u17, u18, (.int .i64 (j : Int)), u20, u21, u22, u23, u24, u25, u26, u27, u28, u29, u30, u31, u32, u33, u34, u35, u36, u37, u38, u39, u40, u41, u42, u43, u44, u45, u46, u47, u48, u49, u50, u51, u52, u53, u54, u55, u56, u57, u58, u59, u60, u61, u62, u63, u64, u65, u66, u67, u68, u69, u70, u71, u72, u73, u74, u75, u76, u77, u78, u79, u80, u81, u82, u83, u84, u85, u86, u87, u88, u89, u90, u91, u92, u93, u94, u95, u96, u97, u98, u99, u100, u101, u102, u103, u104, u105, u106, u107, u108, u109, u110, u111, u112, u113, u114, u115, u116, u117, u118, u119, u120, u121, u122, u123, u124, u125, u126, u127, u128, u129, u130, u131, u132, u133, u134, u135, u136, u137, u138, u139, u140, u141, u142, u143, u144, u145, u146, u147, u148, u149, u150, u151, u152, u153, u154, u155, u156, u157, u158, u159, u160, u161, u162, u163, u164, u165, u166, u167, u168, u169, u170, u171, u172, u173, u174, u175, u176, u177, u178, u179, u180, u181, u182, u183, u184, u185, u186, u187, u188, u189, u190, u191, u192, u193, u194, u195, u196, u197, u198, u199, u200, u201, u202, u203, u204, u205, u206, u207, u208, u209, (.slice (some ⟨hb, 0, none⟩) 8 8), (.int .i64 (j : Int)), (.slice (some ⟨hb, 0, none⟩) 8 8), (.int .i64 (j : Int)), (.pointer (some ⟨hb, j, none⟩)), (V sm), (.slice (some ⟨g, 0, none⟩) 8 cap), (.int .i64 (j : Int)), (.pointer (some ⟨g, j, none⟩)), (V xm), (V (sm + xm)), (.pointer (some ⟨hb, j, none⟩)), u222, u223, u224, u225, u226, u227, u228, u229, u230, u231, u232, u233, u234], []⟩ (w'.setCell ⟨hb, j, none⟩ (V (sm + xm)))) :
 (Code.region 31 (opsIn Tryz.f158 31) true).wp Tryz.prog Q ⟨#[u0, u1, u2, u3, (.slice (some ⟨hb, 0, none⟩) 8 8), u5, u6, u7, u8, u9, u10, u11, u12, (.slice (some ⟨g, 0, none⟩) 8 cap), u14, u15, u16, u17, u18, (.int .i64 (j : Int)), u20, u21, u22, u23, u24, u25, u26, u27, u28, u29, u30, u31, u32, u33, u34, u35, u36, u37, u38, u39, u40, u41, u42, u43, u44, u45, u46, u47, u48, u49, u50, u51, u52, u53, u54, u55, u56, u57, u58, u59, u60, u61, u62, u63, u64, u65, u66, u67, u68, u69, u70, u71, u72, u73, u74, u75, u76, u77, u78, u79, u80, u81, u82, u83, u84, u85, u86, u87, u88, u89, u90, u91, u92, u93, u94, u95, u96, u97, u98, u99, u100, u101, u102, u103, u104, u105, u106, u107, u108, u109, u110, u111, u112, u113, u114, u115, u116, u117, u118, u119, u120, u121, u122, u123, u124, u125, u126, u127, u128, u129, u130, u131, u132, u133, u134, u135, u136, u137, u138, u139, u140, u141, u142, u143, u144, u145, u146, u147, u148, u149, u150, u151, u152, u153, u154, u155, u156, u157, u158, u159, u160, u161, u162, u163, u164, u165, u166, u167, u168, u169, u170, u171, u172, u173, u174, u175, u176, u177, u178, u179, u180, u181, u182, u183, u184, u185, u186, u187, u188, u189, u190, u191, u192, u193, u194, u195, u196, u197, u198, u199, u200, u201, u202, u203, u204, u205, u206, u207, u208, u209, u210, u211, u212, u213, u214, u215, u216, u217, u218, u219, u220, u221, u222, u223, u224, u225, u226, u227, u228, u229, u230, u231, u232, u233, u234], []⟩ w := by
 dsimp only [opsIn, opsOf, Tryz.f158]
 have h0j : (0 : Int) ≤ j := by omega
 have h8j : (j : Int) < 8 := by omega
 apply region_last (n := 12) (hn := by kernel_rfl) (hlast := rfl) (hU := by kernel_rfl) (Φs := (Is _ :: Is _ :: Is _ :: Is _ :: Is _ :: Is _ :: Is _ :: Is _ :: Is _ :: Is _ :: Is _ :: Is _ :: [])) (hm := by kernel_rfl) (hE := by kernel_rfl) (hD := by kernel_rfl) (hsize := by kernel_rfl)
 case hop =>
  refine ⟨?_, ?_, ?_, ?_, ?_, ?_, ?_, ?_, ?_, ?_, ?_, ?_, trivial⟩
  · intro a' w' hs hp he
    have e4 := hs 4 (by kernel_rfl)
    try simp [Is, Region.binds] at he
    exact op_v
  · intro a' w' hs hp he
    have e19 := hs 19 (by kernel_rfl)
    try simp [Is, Region.binds] at he
    exact op_v
  · intro a' w' hs hp he
    have e4 := hs 4 (by kernel_rfl)
    try simp [Is, Region.binds] at he
    exact op_v
  · intro a' w' hs hp he
    have e19 := hs 19 (by kernel_rfl)
    try simp [Is, Region.binds] at he
    exact op_v
  · intro a' w' hs hp he
    try simp [Is, Region.binds] at he
    exact op_v
  · intro a' w' hs hp he
    try simp [Is, Region.binds] at he
    have c := h1 w' hp; exact op_val rfl (wanted_none rfl) (by first | (go_simp; done) | (go_simp; rfl)) rfl (Pu.refl _)
  · intro a' w' hs hp he
    have e13 := hs 13 (by kernel_rfl)
    try simp [Is, Region.binds] at he
    exact op_v
  · intro a' w' hs hp he
    have e19 := hs 19 (by kernel_rfl)
    try simp [Is, Region.binds] at he
    exact op_v
  · intro a' w' hs hp he
    try simp [Is, Region.binds] at he
    exact op_v
  · intro a' w' hs hp he
    try simp [Is, Region.binds] at he
    have c := h2 w' hp; exact op_val rfl (wanted_none rfl) (by first | (go_simp; done) | (go_simp; rfl)) rfl (Pu.refl _)
  · intro a' w' hs hp he
    try simp [Is, Region.binds] at he
    exact op_v
  · intro a' w' hs hp he
    try simp [Is, Region.binds] at he
    exact op_v
 case hend =>
  intro a' w' hdef hsz hs hp hall
  obtain ⟨r0, r1, r2, r3, r4, r5, r6, r7, r8, r9, r10, r11, -⟩ := hall
  have hA := agree_done (agree_step (agree_step (agree_step (agree_step (agree_step (agree_step (agree_step (agree_step (agree_step (agree_step (agree_step (agree_step (agree_init [210, 211, 212, 213, 214, 215, 216, 217, 218, 219, 220, 221] hsz hs (by kernel_rfl)) r0) r1) r2) r3) r4) r5) r6) r7) r8) r9) r10) r11)
  have ha := act_of hA hdef
  rw [ha]
  clear ha hA hs hsz hdef r0 r1 r2 r3 r4 r5 r6 r7 r8 r9 r10 r11 
  (try simp only [List.setIfInBounds_toArray])
  (try dsimp only [List.set_cons_zero, List.set_cons_succ])
  (try simp only [Exit.then])
  have hc := h1 w' hp; have hf := h4 w' hp
  refine op_done rfl (wanted_none rfl) (by first | (go_simp; done) | (go_simp; rfl)) ?_
  (try simp only [Exit.inBlock, Exit.then])
  exact hQ _ hp
end Go.Proofs.YtoakccknimoogaaGreat
