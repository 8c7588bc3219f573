/- TrackPlays: a round's case (another kind). -/
import Derived.Test.YteellfgiejnigaaT33
namespace Go.Proofs.Yteellfgiejnigaa
open Go.ChangeShapes Go.WideShapes Go.ChangeAt Go.RowKit
set_option linter.unusedVariables false

set_option maxRecDepth 1000000 in
set_option maxHeartbeats 64000000 in
theorem plays_round_x (w wr : World) (nl r B0 : Nat) (pl : Option Addr) (cl : Nat) (c1 c2 c4 c5 c6 c7 c8 c9 c29 c30 c31 c32 c33 c34 c35 c36 c37 c38 c39 c40 c41 c42 c43 c44 c45 c46 c47 c48 c49 c50 c51 c52 c53 c54 c55 c56 c57 c58 c59 c235 c236 c237 c238 c239 c240 u13 u14 u15 u16 u17 u18 u19 u20 u21 u22 u23 u24 u25 u26 u27 u28 u60 u61 u62 u63 u64 u65 u66 u67 u68 u69 u70 u71 u72 u73 u74 u75 u76 u77 u78 u79 u80 u81 u82 u83 u84 u85 u86 u87 u88 u89 u90 u91 u92 u93 u94 u95 u96 u97 u98 u99 u100 u101 u102 u103 u104 u105 u106 u107 u108 u109 u110 u111 u112 u113 u114 u115 u116 u117 u118 u119 u120 u121 u122 u123 u124 u125 u126 u127 u128 u129 u130 u131 u132 u133 u134 u135 u136 u137 u138 u139 u140 u141 u142 u143 u144 u145 u146 u147 u148 u149 u150 u151 u152 u153 u154 u155 u156 u157 u158 u159 u160 u161 u162 u163 u164 u165 u166 u167 u168 u169 u170 u171 u172 u173 u174 u175 u176 u177 u178 u179 u180 u181 u182 u183 u184 u185 u186 u187 u188 u189 u190 u191 u192 u193 u194 u195 u196 u197 u198 u199 u200 u201 u202 u203 u204 u205 u206 u207 u208 u209 u210 u211 u212 u213 u214 u215 u216 u217 u218 u219 u220 u221 u222 u223 u224 u225 u226 u227 u228 u229 u230 u231 u232 u233 u234 : Value) (k g B T : Nat) (es : List Ent) (Q0 : Exit → Act → World → Prop) (hlt : k < nl) (h100 : nl ≤ 100) (hB0 : B0 < 2 ^ 64) (hW : Two w wr g r B T es) (hF : Few es k) (bl off : Nat) (hpl : pl = some ⟨bl, off, none⟩) (n term : Nat) (kind most : Int) (pL : Option Addr) (cL : Nat) (L : List Ent) (hra0 : wr.rangeAt bl (off + k * 5) [.int .i64 kind, .int .i64 most, .int .u64 (n : Int), .int .u64 (term : Int), .slice pL L.length cL]) (hlu : EsR w (fun b => b < w.heap.size) (.slice pL L.length cL) L) (hl30 : L.length ≤ 30) (hl5 : ∀ e ∈ L, e.2.length ≤ 50000) (hr2 : -9223372036854775808 ≤ most ∧ most ≤ 9223372036854775807) (hn64 : n < 2 ^ 64) (ht64 : term < 2 ^ 64) (hkind : kind ≠ 0 ∧ kind ≠ 1 ∧ kind ≠ 2 ∧ kind ≠ 3 ∧ kind ≠ 4 ∧ kind ≠ 5 ∧ kind ≠ 6 ∧ kind ≠ 7) :
    Code.wp Try.prog playsBody (Exit.then (fun a' w'' => WI w nl r B0 pl cl c1 c2 c4 c5 c6 c7 c8 c9 c29 c30 c31 c32 c33 c34 c35 c36 c37 c38 c39 c40 c41 c42 c43 c44 c45 c46 c47 c48 c49 c50 c51 c52 c53 c54 c55 c56 c57 c58 c59 c235 c236 c237 c238 c239 c240 a' w'' ∧ Wmu nl a' w'' < Wmu nl ⟨#[.int .u64 (B0 : Int), c1, c2, .slice pl nl cl, c4, c5, c6, c7, c8, c9, .pointer (some ⟨g, 0, none⟩), .pointer (some ⟨r, 0, none⟩), .int .i64 (k : Int), u13, u14, u15, u16, u17, u18, u19, u20, u21, u22, u23, u24, u25, u26, u27, u28, c29, c30, c31, c32, c33, c34, c35, c36, c37, c38, c39, c40, c41, c42, c43, c44, c45, c46, c47, c48, c49, c50, c51, c52, c53, c54, c55, c56, c57, c58, c59, u60, u61, u62, u63, u64, u65, u66, u67, u68, u69, u70, u71, u72, u73, u74, u75, u76, u77, u78, u79, u80, u81, u82, u83, u84, u85, u86, u87, u88, u89, u90, u91, u92, u93, u94, u95, u96, u97, u98, u99, u100, u101, u102, u103, u104, u105, u106, u107, u108, u109, u110, u111, u112, u113, u114, u115, u116, u117, u118, u119, u120, u121, u122, u123, u124, u125, u126, u127, u128, u129, u130, u131, u132, u133, u134, u135, u136, u137, u138, u139, u140, u141, u142, u143, u144, u145, u146, u147, u148, u149, u150, u151, u152, u153, u154, u155, u156, u157, u158, u159, u160, u161, u162, u163, u164, u165, u166, u167, u168, u169, u170, u171, u172, u173, u174, u175, u176, u177, u178, u179, u180, u181, u182, u183, u184, u185, u186, u187, u188, u189, u190, u191, u192, u193, u194, u195, u196, u197, u198, u199, u200, u201, u202, u203, u204, u205, u206, u207, u208, u209, u210, u211, u212, u213, u214, u215, u216, u217, u218, u219, u220, u221, u222, u223, u224, u225, u226, u227, u228, u229, u230, u231, u232, u233, u234, c235, c236, c237, c238, c239, c240], []⟩ wr) Q0) ⟨#[.int .u64 (B0 : Int), c1, c2, .slice pl nl cl, c4, c5, c6, c7, c8, c9, .pointer (some ⟨g, 0, none⟩), .pointer (some ⟨r, 0, none⟩), .int .i64 (k : Int), u13, u14, u15, u16, u17, u18, u19, u20, u21, u22, u23, u24, u25, u26, u27, u28, c29, c30, c31, c32, c33, c34, c35, c36, c37, c38, c39, c40, c41, c42, c43, c44, c45, c46, c47, c48, c49, c50, c51, c52, c53, c54, c55, c56, c57, c58, c59, u60, u61, u62, u63, u64, u65, u66, u67, u68, u69, u70, u71, u72, u73, u74, u75, u76, u77, u78, u79, u80, u81, u82, u83, u84, u85, u86, u87, u88, u89, u90, u91, u92, u93, u94, u95, u96, u97, u98, u99, u100, u101, u102, u103, u104, u105, u106, u107, u108, u109, u110, u111, u112, u113, u114, u115, u116, u117, u118, u119, u120, u121, u122, u123, u124, u125, u126, u127, u128, u129, u130, u131, u132, u133, u134, u135, u136, u137, u138, u139, u140, u141, u142, u143, u144, u145, u146, u147, u148, u149, u150, u151, u152, u153, u154, u155, u156, u157, u158, u159, u160, u161, u162, u163, u164, u165, u166, u167, u168, u169, u170, u171, u172, u173, u174, u175, u176, u177, u178, u179, u180, u181, u182, u183, u184, u185, u186, u187, u188, u189, u190, u191, u192, u193, u194, u195, u196, u197, u198, u199, u200, u201, u202, u203, u204, u205, u206, u207, u208, u209, u210, u211, u212, u213, u214, u215, u216, u217, u218, u219, u220, u221, u222, u223, u224, u225, u226, u227, u228, u229, u230, u231, u232, u233, u234, c235, c236, c237, c238, c239, c240], []⟩ wr := by
  subst hpl
  have HW := Lib.hid hW
  have HF := Lib.hid hF
  have hn6 : es.length ≤ 3030 := hF.n6 (by omega)
  have HLU := Lib.hid hlu
  have Hra := Lib.hid hra0
  obtain ⟨w2x, HW2, ho2, hB2⟩ := stored39 wr (.int .i64 kind) (.int .i64 most) (.int .u64 (n : Int)) (.int .u64 (term : Int)) (.slice pL L.length cL)
  obtain ⟨S, R, vt, ut, M2⟩ := HW.out.mid ho2 hB2
  have HZ := Lib.hid (heap_alloc_new wr (.cells #[.int .i64 0, .int .i64 0, .int .u64 0, .int .u64 0, .slice none 0 0] 39))
  have o24 := M2.oat 4
  have o20 := M2.oat 0
  simp only [List.getElem?_toArray, List.getElem?_cons_zero, List.getElem?_cons_succ] at o20 o24
  have HM2 := Lib.hid M2
  have Hl5 := Lib.hid hl5
  have Hf5 := Lib.hid hF.2
  have Hone := Lib.hid (show (#[Value.int .i64 kind, .int .i64 most, .int .u64 (n : Int), .int .u64 (term : Int), .slice pL L.length cL]).all (·.oneCell') = true by simp [Value.oneCell'])
  clear hra0 hlu ho2 hB2 M2 hl5 hW hF
  conv => arg 2; whnf
  have dk0 : (kind == 0) = false := by simp; omega
  have dj0 : decide (kind = 0) = false := by simp; omega
  have dk1 : (kind == 1) = false := by simp; omega
  have dj1 : decide (kind = 1) = false := by simp; omega
  have dk2 : (kind == 2) = false := by simp; omega
  have dj2 : decide (kind = 2) = false := by simp; omega
  have dk3 : (kind == 3) = false := by simp; omega
  have dj3 : decide (kind = 3) = false := by simp; omega
  have dk4 : (kind == 4) = false := by simp; omega
  have dj4 : decide (kind = 4) = false := by simp; omega
  have dk5 : (kind == 5) = false := by simp; omega
  have dj5 : decide (kind = 5) = false := by simp; omega
  have dk6 : (kind == 6) = false := by simp; omega
  have dj6 : decide (kind = 6) = false := by simp; omega
  have dk7 : (kind == 7) = false := by simp; omega
  have dj7 : decide (kind = 7) = false := by simp; omega
  clear hkind
  have HF7 := Lib.hid HF.out.succ
  go_wp2_with (first
    | (refine wpList_load_mid rfl 39 (.tmp 68) rfl _ _ rfl [.int .i64 kind, .int .i64 most, .int .u64 (n : Int), .int .u64 (term : Int), .slice pL L.length cL] _ Hra.out Try.underlying39 rfl (show _ = some 5 by kernel_rfl) ?_)
    | (refine wpList_alloc_zero rfl 39 rfl _ hz39 ?_)
    | (refine wpList_store_rowTo rfl 39 (.tmp 13) (.tmp 69) rfl rfl _ #[.int .i64 kind, .int .i64 most, .int .u64 (n : Int), .int .u64 (term : Int), .slice pL L.length cL] rfl rfl 39 #[.int .i64 0, .int .i64 0, .int .u64 0, .int .u64 0, .slice none 0 0] HZ.out (show _ = some 5 by kernel_rfl) rfl Hone.out ?_; rw [HW2.out])
    | (go_at_call 30; refine (copies_w _ _ L _ (HM2.out.inp HLU.out) (by omega) (fun e he => Nat.le_trans (Hl5.out e he) (by decide))).mono ?_; rintro r3 w3x ⟨ix, rfl, hi, hB⟩; obtain ⟨px, cx, rfl⟩ := hi.form; have M3 := HM2.out.keep hB; have HD3 := Lib.hid (Side.new HM2.out hB hi); have o30 := M3.oat 0; have o31 := M3.oat 1; have o32 := M3.oat 2; have o33 := M3.oat 3; have o34 := M3.oat 4; simp only [List.getElem?_toArray, List.getElem?_cons_zero, List.getElem?_cons_succ] at o30 o31 o32 o33 o34; have HM3 := Lib.hid M3; have hs23 := hB.size; clear hi hB M3 HM2 o20 o24)
    | (go_at_call 32; refine (spoil_w _ _ _ _ HD3.out.i (by omega) (fun e he => Nat.le_trans (Hl5.out e he) (by decide))).mono ?_; rintro r6 w6x ⟨⟨x6, rfl⟩, hto⟩; have HM6 := Lib.hid (HM3.out.stepX HD3.out hto); clear hto HD3)
    | (go_at_call 41; refine (sameall_w _ _ _ _ _ _ _ _ _ _ HM6.out.t HM6.out.k (by omega) (fun e he => Nat.le_trans (HF7.out.2 e he) (by decide))).mono ?_; rintro r7 w7x ⟨rfl, hB⟩; have HM7 := Lib.hid (HM6.out.keep hB); clear hB))
  refine ⟨?_, by simp [Wmu, intOf]; omega⟩
  unfold WI
  refine ⟨_, _, _, _, _, _, _, _, _, _, _, _, _, _, _, _, _, _, _, _, _, _, _, _, _, _, _, _, _, _, _, _, _, _, _, _, _, _, _, _, _, _, _, _, _, _, _, _, _, _, _, _, _, _, _, _, _, _, _, _, _, _, _, _, _, _, _, _, _, _, _, _, _, _, _, _, _, _, _, _, _, _, _, _, _, _, _, _, _, _, _, _, _, _, _, _, _, _, _, _, _, _, _, _, _, _, _, _, _, _, _, _, _, _, _, _, _, _, _, _, _, _, _, _, _, _, _, _, _, _, _, _, _, _, _, _, _, _, _, _, _, _, _, _, _, _, _, _, _, _, _, _, _, _, _, _, _, _, _, _, _, _, _, _, _, _, _, _, _, _, _, _, _, _, _, _, _, _, _, _, _, _, _, _, _, _, _, _, _, _, _, _, _, ?_, rfl⟩
  exact ⟨k + 1, g, B, T, es, by omega, rfl, by go_num, HM7.out.two, HF7.out⟩
end Go.Proofs.Yteellfgiejnigaa
