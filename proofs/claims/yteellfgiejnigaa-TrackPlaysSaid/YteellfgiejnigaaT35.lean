/- TrackPlays: the round, the loop, and the walk joined. -/
import Derived.Test.YteellfgiejnigaaP0
import Derived.Test.YteellfgiejnigaaP1
import Derived.Test.YteellfgiejnigaaP2
import Derived.Test.YteellfgiejnigaaP3
import Derived.Test.YteellfgiejnigaaP4
import Derived.Test.YteellfgiejnigaaP5
import Derived.Test.YteellfgiejnigaaP6
import Derived.Test.YteellfgiejnigaaP7
import Derived.Test.YteellfgiejnigaaPx
import Derived.Test.YteellfgiejnigaaPe
namespace Go.Proofs.Yteellfgiejnigaa
open Go.ChangeShapes Go.WideShapes Go.ChangeAt Go.RowKit
set_option linter.unusedVariables false

/-- What is known of the calls. -/
def OpsK (w : World) (pl : Option Addr) (ls : List Opd) : Prop := (ls ≠ [] → ∃ b off, pl = some ⟨b, off, none⟩ ∧ b < w.heap.size ∧ ∀ i (hi : i < ls.length), ∃ u, w.rangeAt b (off + i * 5) [.int .i64 ls[i].1, .int .i64 ls[i].2.1, .int .u64 (ls[i].2.2.1 : Int), .int .u64 (ls[i].2.2.2.1 : Int), u] ∧ EsR w (fun b => b < w.heap.size) u ls[i].2.2.2.2) ∧
    (∀ o ∈ ls, (-9223372036854775808 ≤ o.1 ∧ o.1 ≤ 9223372036854775807) ∧ (-9223372036854775808 ≤ o.2.1 ∧ o.2.1 ≤ 9223372036854775807) ∧ o.2.2.1 < 2 ^ 64 ∧ o.2.2.2.1 < 2 ^ 64 ∧ ∀ e ∈ o.2.2.2.2, e.2.length ≤ 140737488351232) ∧
    ∀ o ∈ ls, o.2.2.2.2.length ≤ 30 ∧ ∀ e ∈ o.2.2.2.2, e.2.length ≤ 50000
set_option maxRecDepth 1000000 in
set_option maxHeartbeats 64000000 in
theorem plays_round (w wr : World) (ls : List Opd) (nl : Nat) (hnl : nl = ls.length) (r B0 : Nat) (pl : Option Addr) (cl : Nat) (c1 c2 c4 c5 c6 c7 c8 c9 c29 c30 c31 c32 c33 c34 c35 c36 c37 c38 c39 c40 c41 c42 c43 c44 c45 c46 c47 c48 c49 c50 c51 c52 c53 c54 c55 c56 c57 c58 c59 c235 c236 c237 c238 c239 c240 : Value) (Q0 : Exit → Act → World → Prop) (h100 : nl ≤ 100) (hB0 : B0 < 2 ^ 64) (hO : OpsK w pl ls)
    (hexit : ∀ a' w'', WX w nl r B0 pl cl c1 c2 c4 c5 c6 c7 c8 c9 c29 c30 c31 c32 c33 c34 c35 c36 c37 c38 c39 c40 c41 c42 c43 c44 c45 c46 c47 c48 c49 c50 c51 c52 c53 c54 c55 c56 c57 c58 c59 c235 c236 c237 c238 c239 c240 a' w'' → Q0 (.exit 0) a' w'') (a : Act) (hI : WI w nl r B0 pl cl c1 c2 c4 c5 c6 c7 c8 c9 c29 c30 c31 c32 c33 c34 c35 c36 c37 c38 c39 c40 c41 c42 c43 c44 c45 c46 c47 c48 c49 c50 c51 c52 c53 c54 c55 c56 c57 c58 c59 c235 c236 c237 c238 c239 c240 a wr) :
    Code.wp Try.prog playsBody (Exit.then (fun a' w'' => WI w nl r B0 pl cl c1 c2 c4 c5 c6 c7 c8 c9 c29 c30 c31 c32 c33 c34 c35 c36 c37 c38 c39 c40 c41 c42 c43 c44 c45 c46 c47 c48 c49 c50 c51 c52 c53 c54 c55 c56 c57 c58 c59 c235 c236 c237 c238 c239 c240 a' w'' ∧ Wmu nl a' w'' < Wmu nl a wr) Q0) a wr := by
  unfold WI at hI
  obtain ⟨u10, hI⟩ := hI
  obtain ⟨u12, hI⟩ := hI
  obtain ⟨u13, hI⟩ := hI
  obtain ⟨u14, hI⟩ := hI
  obtain ⟨u15, hI⟩ := hI
  obtain ⟨u16, hI⟩ := hI
  obtain ⟨u17, hI⟩ := hI
  obtain ⟨u18, hI⟩ := hI
  obtain ⟨u19, hI⟩ := hI
  obtain ⟨u20, hI⟩ := hI
  obtain ⟨u21, hI⟩ := hI
  obtain ⟨u22, hI⟩ := hI
  obtain ⟨u23, hI⟩ := hI
  obtain ⟨u24, hI⟩ := hI
  obtain ⟨u25, hI⟩ := hI
  obtain ⟨u26, hI⟩ := hI
  obtain ⟨u27, hI⟩ := hI
  obtain ⟨u28, hI⟩ := hI
  obtain ⟨u60, hI⟩ := hI
  obtain ⟨u61, hI⟩ := hI
  obtain ⟨u62, hI⟩ := hI
  obtain ⟨u63, hI⟩ := hI
  obtain ⟨u64, hI⟩ := hI
  obtain ⟨u65, hI⟩ := hI
  obtain ⟨u66, hI⟩ := hI
  obtain ⟨u67, hI⟩ := hI
  obtain ⟨u68, hI⟩ := hI
  obtain ⟨u69, hI⟩ := hI
  obtain ⟨u70, hI⟩ := hI
  obtain ⟨u71, hI⟩ := hI
  obtain ⟨u72, hI⟩ := hI
  obtain ⟨u73, hI⟩ := hI
  obtain ⟨u74, hI⟩ := hI
  obtain ⟨u75, hI⟩ := hI
  obtain ⟨u76, hI⟩ := hI
  obtain ⟨u77, hI⟩ := hI
  obtain ⟨u78, hI⟩ := hI
  obtain ⟨u79, hI⟩ := hI
  obtain ⟨u80, hI⟩ := hI
  obtain ⟨u81, hI⟩ := hI
  obtain ⟨u82, hI⟩ := hI
  obtain ⟨u83, hI⟩ := hI
  obtain ⟨u84, hI⟩ := hI
  obtain ⟨u85, hI⟩ := hI
  obtain ⟨u86, hI⟩ := hI
  obtain ⟨u87, hI⟩ := hI
  obtain ⟨u88, hI⟩ := hI
  obtain ⟨u89, hI⟩ := hI
  obtain ⟨u90, hI⟩ := hI
  obtain ⟨u91, hI⟩ := hI
  obtain ⟨u92, hI⟩ := hI
  obtain ⟨u93, hI⟩ := hI
  obtain ⟨u94, hI⟩ := hI
  obtain ⟨u95, hI⟩ := hI
  obtain ⟨u96, hI⟩ := hI
  obtain ⟨u97, hI⟩ := hI
  obtain ⟨u98, hI⟩ := hI
  obtain ⟨u99, hI⟩ := hI
  obtain ⟨u100, hI⟩ := hI
  obtain ⟨u101, hI⟩ := hI
  obtain ⟨u102, hI⟩ := hI
  obtain ⟨u103, hI⟩ := hI
  obtain ⟨u104, hI⟩ := hI
  obtain ⟨u105, hI⟩ := hI
  obtain ⟨u106, hI⟩ := hI
  obtain ⟨u107, hI⟩ := hI
  obtain ⟨u108, hI⟩ := hI
  obtain ⟨u109, hI⟩ := hI
  obtain ⟨u110, hI⟩ := hI
  obtain ⟨u111, hI⟩ := hI
  obtain ⟨u112, hI⟩ := hI
  obtain ⟨u113, hI⟩ := hI
  obtain ⟨u114, hI⟩ := hI
  obtain ⟨u115, hI⟩ := hI
  obtain ⟨u116, hI⟩ := hI
  obtain ⟨u117, hI⟩ := hI
  obtain ⟨u118, hI⟩ := hI
  obtain ⟨u119, hI⟩ := hI
  obtain ⟨u120, hI⟩ := hI
  obtain ⟨u121, hI⟩ := hI
  obtain ⟨u122, hI⟩ := hI
  obtain ⟨u123, hI⟩ := hI
  obtain ⟨u124, hI⟩ := hI
  obtain ⟨u125, hI⟩ := hI
  obtain ⟨u126, hI⟩ := hI
  obtain ⟨u127, hI⟩ := hI
  obtain ⟨u128, hI⟩ := hI
  obtain ⟨u129, hI⟩ := hI
  obtain ⟨u130, hI⟩ := hI
  obtain ⟨u131, hI⟩ := hI
  obtain ⟨u132, hI⟩ := hI
  obtain ⟨u133, hI⟩ := hI
  obtain ⟨u134, hI⟩ := hI
  obtain ⟨u135, hI⟩ := hI
  obtain ⟨u136, hI⟩ := hI
  obtain ⟨u137, hI⟩ := hI
  obtain ⟨u138, hI⟩ := hI
  obtain ⟨u139, hI⟩ := hI
  obtain ⟨u140, hI⟩ := hI
  obtain ⟨u141, hI⟩ := hI
  obtain ⟨u142, hI⟩ := hI
  obtain ⟨u143, hI⟩ := hI
  obtain ⟨u144, hI⟩ := hI
  obtain ⟨u145, hI⟩ := hI
  obtain ⟨u146, hI⟩ := hI
  obtain ⟨u147, hI⟩ := hI
  obtain ⟨u148, hI⟩ := hI
  obtain ⟨u149, hI⟩ := hI
  obtain ⟨u150, hI⟩ := hI
  obtain ⟨u151, hI⟩ := hI
  obtain ⟨u152, hI⟩ := hI
  obtain ⟨u153, hI⟩ := hI
  obtain ⟨u154, hI⟩ := hI
  obtain ⟨u155, hI⟩ := hI
  obtain ⟨u156, hI⟩ := hI
  obtain ⟨u157, hI⟩ := hI
  obtain ⟨u158, hI⟩ := hI
  obtain ⟨u159, hI⟩ := hI
  obtain ⟨u160, hI⟩ := hI
  obtain ⟨u161, hI⟩ := hI
  obtain ⟨u162, hI⟩ := hI
  obtain ⟨u163, hI⟩ := hI
  obtain ⟨u164, hI⟩ := hI
  obtain ⟨u165, hI⟩ := hI
  obtain ⟨u166, hI⟩ := hI
  obtain ⟨u167, hI⟩ := hI
  obtain ⟨u168, hI⟩ := hI
  obtain ⟨u169, hI⟩ := hI
  obtain ⟨u170, hI⟩ := hI
  obtain ⟨u171, hI⟩ := hI
  obtain ⟨u172, hI⟩ := hI
  obtain ⟨u173, hI⟩ := hI
  obtain ⟨u174, hI⟩ := hI
  obtain ⟨u175, hI⟩ := hI
  obtain ⟨u176, hI⟩ := hI
  obtain ⟨u177, hI⟩ := hI
  obtain ⟨u178, hI⟩ := hI
  obtain ⟨u179, hI⟩ := hI
  obtain ⟨u180, hI⟩ := hI
  obtain ⟨u181, hI⟩ := hI
  obtain ⟨u182, hI⟩ := hI
  obtain ⟨u183, hI⟩ := hI
  obtain ⟨u184, hI⟩ := hI
  obtain ⟨u185, hI⟩ := hI
  obtain ⟨u186, hI⟩ := hI
  obtain ⟨u187, hI⟩ := hI
  obtain ⟨u188, hI⟩ := hI
  obtain ⟨u189, hI⟩ := hI
  obtain ⟨u190, hI⟩ := hI
  obtain ⟨u191, hI⟩ := hI
  obtain ⟨u192, hI⟩ := hI
  obtain ⟨u193, hI⟩ := hI
  obtain ⟨u194, hI⟩ := hI
  obtain ⟨u195, hI⟩ := hI
  obtain ⟨u196, hI⟩ := hI
  obtain ⟨u197, hI⟩ := hI
  obtain ⟨u198, hI⟩ := hI
  obtain ⟨u199, hI⟩ := hI
  obtain ⟨u200, hI⟩ := hI
  obtain ⟨u201, hI⟩ := hI
  obtain ⟨u202, hI⟩ := hI
  obtain ⟨u203, hI⟩ := hI
  obtain ⟨u204, hI⟩ := hI
  obtain ⟨u205, hI⟩ := hI
  obtain ⟨u206, hI⟩ := hI
  obtain ⟨u207, hI⟩ := hI
  obtain ⟨u208, hI⟩ := hI
  obtain ⟨u209, hI⟩ := hI
  obtain ⟨u210, hI⟩ := hI
  obtain ⟨u211, hI⟩ := hI
  obtain ⟨u212, hI⟩ := hI
  obtain ⟨u213, hI⟩ := hI
  obtain ⟨u214, hI⟩ := hI
  obtain ⟨u215, hI⟩ := hI
  obtain ⟨u216, hI⟩ := hI
  obtain ⟨u217, hI⟩ := hI
  obtain ⟨u218, hI⟩ := hI
  obtain ⟨u219, hI⟩ := hI
  obtain ⟨u220, hI⟩ := hI
  obtain ⟨u221, hI⟩ := hI
  obtain ⟨u222, hI⟩ := hI
  obtain ⟨u223, hI⟩ := hI
  obtain ⟨u224, hI⟩ := hI
  obtain ⟨u225, hI⟩ := hI
  obtain ⟨u226, hI⟩ := hI
  obtain ⟨u227, hI⟩ := hI
  obtain ⟨u228, hI⟩ := hI
  obtain ⟨u229, hI⟩ := hI
  obtain ⟨u230, hI⟩ := hI
  obtain ⟨u231, hI⟩ := hI
  obtain ⟨u232, hI⟩ := hI
  obtain ⟨u233, hI⟩ := hI
  obtain ⟨u234, hI⟩ := hI
  obtain ⟨⟨k, g, B, T, es, hk, rfl, rfl, hW, hF⟩, rfl⟩ := hI
  by_cases hlt : k < nl
  · have hlt2 : k < ls.length := by omega
    obtain ⟨bl, off, hpl, hbl, hcl⟩ := hO.1 (by rintro rfl; simp at hlt2)
    obtain ⟨lu, hra, hlu⟩ := hcl k hlt2
    have hmem := List.getElem_mem hlt2
    obtain ⟨hl30, hl5⟩ := hO.2.2 _ hmem
    obtain ⟨hr1, hr2, hn64, ht64, _⟩ := hO.2.1 _ hmem
    have hra0 := rangeAt_same hra (hW.below.block bl hbl)
    generalize ls[k].1 = kind at *
    generalize ls[k].2.1 = most at *
    generalize ls[k].2.2.1 = n at *
    generalize ls[k].2.2.2.1 = term at *
    generalize ls[k].2.2.2.2 = L at *
    obtain ⟨pL, cL, rfl⟩ := hlu.len_form
    have hkind : kind = 0 ∨ kind = 1 ∨ kind = 2 ∨ kind = 3 ∨ kind = 4 ∨ kind = 5 ∨ kind = 6 ∨ kind = 7 ∨ (kind ≠ 0 ∧ kind ≠ 1 ∧ kind ≠ 2 ∧ kind ≠ 3 ∧ kind ≠ 4 ∧ kind ≠ 5 ∧ kind ≠ 6 ∧ kind ≠ 7) := by omega
    rcases hkind with rfl | rfl | rfl | rfl | rfl | rfl | rfl | rfl | hkind
    · exact plays_round_0 w wr nl r B0 pl cl c1 c2 c4 c5 c6 c7 c8 c9 c29 c30 c31 c32 c33 c34 c35 c36 c37 c38 c39 c40 c41 c42 c43 c44 c45 c46 c47 c48 c49 c50 c51 c52 c53 c54 c55 c56 c57 c58 c59 c235 c236 c237 c238 c239 c240 u13 u14 u15 u16 u17 u18 u19 u20 u21 u22 u23 u24 u25 u26 u27 u28 u60 u61 u62 u63 u64 u65 u66 u67 u68 u69 u70 u71 u72 u73 u74 u75 u76 u77 u78 u79 u80 u81 u82 u83 u84 u85 u86 u87 u88 u89 u90 u91 u92 u93 u94 u95 u96 u97 u98 u99 u100 u101 u102 u103 u104 u105 u106 u107 u108 u109 u110 u111 u112 u113 u114 u115 u116 u117 u118 u119 u120 u121 u122 u123 u124 u125 u126 u127 u128 u129 u130 u131 u132 u133 u134 u135 u136 u137 u138 u139 u140 u141 u142 u143 u144 u145 u146 u147 u148 u149 u150 u151 u152 u153 u154 u155 u156 u157 u158 u159 u160 u161 u162 u163 u164 u165 u166 u167 u168 u169 u170 u171 u172 u173 u174 u175 u176 u177 u178 u179 u180 u181 u182 u183 u184 u185 u186 u187 u188 u189 u190 u191 u192 u193 u194 u195 u196 u197 u198 u199 u200 u201 u202 u203 u204 u205 u206 u207 u208 u209 u210 u211 u212 u213 u214 u215 u216 u217 u218 u219 u220 u221 u222 u223 u224 u225 u226 u227 u228 u229 u230 u231 u232 u233 u234 k g B T es Q0 hlt h100 hB0 hW hF bl off hpl n term most pL cL L hra0 hlu hl30 hl5 hr2 hn64 ht64
    · exact plays_round_1 w wr nl r B0 pl cl c1 c2 c4 c5 c6 c7 c8 c9 c29 c30 c31 c32 c33 c34 c35 c36 c37 c38 c39 c40 c41 c42 c43 c44 c45 c46 c47 c48 c49 c50 c51 c52 c53 c54 c55 c56 c57 c58 c59 c235 c236 c237 c238 c239 c240 u13 u14 u15 u16 u17 u18 u19 u20 u21 u22 u23 u24 u25 u26 u27 u28 u60 u61 u62 u63 u64 u65 u66 u67 u68 u69 u70 u71 u72 u73 u74 u75 u76 u77 u78 u79 u80 u81 u82 u83 u84 u85 u86 u87 u88 u89 u90 u91 u92 u93 u94 u95 u96 u97 u98 u99 u100 u101 u102 u103 u104 u105 u106 u107 u108 u109 u110 u111 u112 u113 u114 u115 u116 u117 u118 u119 u120 u121 u122 u123 u124 u125 u126 u127 u128 u129 u130 u131 u132 u133 u134 u135 u136 u137 u138 u139 u140 u141 u142 u143 u144 u145 u146 u147 u148 u149 u150 u151 u152 u153 u154 u155 u156 u157 u158 u159 u160 u161 u162 u163 u164 u165 u166 u167 u168 u169 u170 u171 u172 u173 u174 u175 u176 u177 u178 u179 u180 u181 u182 u183 u184 u185 u186 u187 u188 u189 u190 u191 u192 u193 u194 u195 u196 u197 u198 u199 u200 u201 u202 u203 u204 u205 u206 u207 u208 u209 u210 u211 u212 u213 u214 u215 u216 u217 u218 u219 u220 u221 u222 u223 u224 u225 u226 u227 u228 u229 u230 u231 u232 u233 u234 k g B T es Q0 hlt h100 hB0 hW hF bl off hpl n term most pL cL L hra0 hlu hl30 hl5 hr2 hn64 ht64
    · exact plays_round_2 w wr nl r B0 pl cl c1 c2 c4 c5 c6 c7 c8 c9 c29 c30 c31 c32 c33 c34 c35 c36 c37 c38 c39 c40 c41 c42 c43 c44 c45 c46 c47 c48 c49 c50 c51 c52 c53 c54 c55 c56 c57 c58 c59 c235 c236 c237 c238 c239 c240 u13 u14 u15 u16 u17 u18 u19 u20 u21 u22 u23 u24 u25 u26 u27 u28 u60 u61 u62 u63 u64 u65 u66 u67 u68 u69 u70 u71 u72 u73 u74 u75 u76 u77 u78 u79 u80 u81 u82 u83 u84 u85 u86 u87 u88 u89 u90 u91 u92 u93 u94 u95 u96 u97 u98 u99 u100 u101 u102 u103 u104 u105 u106 u107 u108 u109 u110 u111 u112 u113 u114 u115 u116 u117 u118 u119 u120 u121 u122 u123 u124 u125 u126 u127 u128 u129 u130 u131 u132 u133 u134 u135 u136 u137 u138 u139 u140 u141 u142 u143 u144 u145 u146 u147 u148 u149 u150 u151 u152 u153 u154 u155 u156 u157 u158 u159 u160 u161 u162 u163 u164 u165 u166 u167 u168 u169 u170 u171 u172 u173 u174 u175 u176 u177 u178 u179 u180 u181 u182 u183 u184 u185 u186 u187 u188 u189 u190 u191 u192 u193 u194 u195 u196 u197 u198 u199 u200 u201 u202 u203 u204 u205 u206 u207 u208 u209 u210 u211 u212 u213 u214 u215 u216 u217 u218 u219 u220 u221 u222 u223 u224 u225 u226 u227 u228 u229 u230 u231 u232 u233 u234 k g B T es Q0 hlt h100 hB0 hW hF bl off hpl n term most pL cL L hra0 hlu hl30 hl5 hr2 hn64 ht64
    · exact plays_round_3 w wr nl r B0 pl cl c1 c2 c4 c5 c6 c7 c8 c9 c29 c30 c31 c32 c33 c34 c35 c36 c37 c38 c39 c40 c41 c42 c43 c44 c45 c46 c47 c48 c49 c50 c51 c52 c53 c54 c55 c56 c57 c58 c59 c235 c236 c237 c238 c239 c240 u13 u14 u15 u16 u17 u18 u19 u20 u21 u22 u23 u24 u25 u26 u27 u28 u60 u61 u62 u63 u64 u65 u66 u67 u68 u69 u70 u71 u72 u73 u74 u75 u76 u77 u78 u79 u80 u81 u82 u83 u84 u85 u86 u87 u88 u89 u90 u91 u92 u93 u94 u95 u96 u97 u98 u99 u100 u101 u102 u103 u104 u105 u106 u107 u108 u109 u110 u111 u112 u113 u114 u115 u116 u117 u118 u119 u120 u121 u122 u123 u124 u125 u126 u127 u128 u129 u130 u131 u132 u133 u134 u135 u136 u137 u138 u139 u140 u141 u142 u143 u144 u145 u146 u147 u148 u149 u150 u151 u152 u153 u154 u155 u156 u157 u158 u159 u160 u161 u162 u163 u164 u165 u166 u167 u168 u169 u170 u171 u172 u173 u174 u175 u176 u177 u178 u179 u180 u181 u182 u183 u184 u185 u186 u187 u188 u189 u190 u191 u192 u193 u194 u195 u196 u197 u198 u199 u200 u201 u202 u203 u204 u205 u206 u207 u208 u209 u210 u211 u212 u213 u214 u215 u216 u217 u218 u219 u220 u221 u222 u223 u224 u225 u226 u227 u228 u229 u230 u231 u232 u233 u234 k g B T es Q0 hlt h100 hB0 hW hF bl off hpl n term most pL cL L hra0 hlu hl30 hl5 hr2 hn64 ht64
    · exact plays_round_4 w wr nl r B0 pl cl c1 c2 c4 c5 c6 c7 c8 c9 c29 c30 c31 c32 c33 c34 c35 c36 c37 c38 c39 c40 c41 c42 c43 c44 c45 c46 c47 c48 c49 c50 c51 c52 c53 c54 c55 c56 c57 c58 c59 c235 c236 c237 c238 c239 c240 u13 u14 u15 u16 u17 u18 u19 u20 u21 u22 u23 u24 u25 u26 u27 u28 u60 u61 u62 u63 u64 u65 u66 u67 u68 u69 u70 u71 u72 u73 u74 u75 u76 u77 u78 u79 u80 u81 u82 u83 u84 u85 u86 u87 u88 u89 u90 u91 u92 u93 u94 u95 u96 u97 u98 u99 u100 u101 u102 u103 u104 u105 u106 u107 u108 u109 u110 u111 u112 u113 u114 u115 u116 u117 u118 u119 u120 u121 u122 u123 u124 u125 u126 u127 u128 u129 u130 u131 u132 u133 u134 u135 u136 u137 u138 u139 u140 u141 u142 u143 u144 u145 u146 u147 u148 u149 u150 u151 u152 u153 u154 u155 u156 u157 u158 u159 u160 u161 u162 u163 u164 u165 u166 u167 u168 u169 u170 u171 u172 u173 u174 u175 u176 u177 u178 u179 u180 u181 u182 u183 u184 u185 u186 u187 u188 u189 u190 u191 u192 u193 u194 u195 u196 u197 u198 u199 u200 u201 u202 u203 u204 u205 u206 u207 u208 u209 u210 u211 u212 u213 u214 u215 u216 u217 u218 u219 u220 u221 u222 u223 u224 u225 u226 u227 u228 u229 u230 u231 u232 u233 u234 k g B T es Q0 hlt h100 hB0 hW hF bl off hpl n term most pL cL L hra0 hlu hl30 hl5 hr2 hn64 ht64
    · exact plays_round_5 w wr nl r B0 pl cl c1 c2 c4 c5 c6 c7 c8 c9 c29 c30 c31 c32 c33 c34 c35 c36 c37 c38 c39 c40 c41 c42 c43 c44 c45 c46 c47 c48 c49 c50 c51 c52 c53 c54 c55 c56 c57 c58 c59 c235 c236 c237 c238 c239 c240 u13 u14 u15 u16 u17 u18 u19 u20 u21 u22 u23 u24 u25 u26 u27 u28 u60 u61 u62 u63 u64 u65 u66 u67 u68 u69 u70 u71 u72 u73 u74 u75 u76 u77 u78 u79 u80 u81 u82 u83 u84 u85 u86 u87 u88 u89 u90 u91 u92 u93 u94 u95 u96 u97 u98 u99 u100 u101 u102 u103 u104 u105 u106 u107 u108 u109 u110 u111 u112 u113 u114 u115 u116 u117 u118 u119 u120 u121 u122 u123 u124 u125 u126 u127 u128 u129 u130 u131 u132 u133 u134 u135 u136 u137 u138 u139 u140 u141 u142 u143 u144 u145 u146 u147 u148 u149 u150 u151 u152 u153 u154 u155 u156 u157 u158 u159 u160 u161 u162 u163 u164 u165 u166 u167 u168 u169 u170 u171 u172 u173 u174 u175 u176 u177 u178 u179 u180 u181 u182 u183 u184 u185 u186 u187 u188 u189 u190 u191 u192 u193 u194 u195 u196 u197 u198 u199 u200 u201 u202 u203 u204 u205 u206 u207 u208 u209 u210 u211 u212 u213 u214 u215 u216 u217 u218 u219 u220 u221 u222 u223 u224 u225 u226 u227 u228 u229 u230 u231 u232 u233 u234 k g B T es Q0 hlt h100 hB0 hW hF bl off hpl n term most pL cL L hra0 hlu hl30 hl5 hr2 hn64 ht64
    · exact plays_round_6 w wr nl r B0 pl cl c1 c2 c4 c5 c6 c7 c8 c9 c29 c30 c31 c32 c33 c34 c35 c36 c37 c38 c39 c40 c41 c42 c43 c44 c45 c46 c47 c48 c49 c50 c51 c52 c53 c54 c55 c56 c57 c58 c59 c235 c236 c237 c238 c239 c240 u13 u14 u15 u16 u17 u18 u19 u20 u21 u22 u23 u24 u25 u26 u27 u28 u60 u61 u62 u63 u64 u65 u66 u67 u68 u69 u70 u71 u72 u73 u74 u75 u76 u77 u78 u79 u80 u81 u82 u83 u84 u85 u86 u87 u88 u89 u90 u91 u92 u93 u94 u95 u96 u97 u98 u99 u100 u101 u102 u103 u104 u105 u106 u107 u108 u109 u110 u111 u112 u113 u114 u115 u116 u117 u118 u119 u120 u121 u122 u123 u124 u125 u126 u127 u128 u129 u130 u131 u132 u133 u134 u135 u136 u137 u138 u139 u140 u141 u142 u143 u144 u145 u146 u147 u148 u149 u150 u151 u152 u153 u154 u155 u156 u157 u158 u159 u160 u161 u162 u163 u164 u165 u166 u167 u168 u169 u170 u171 u172 u173 u174 u175 u176 u177 u178 u179 u180 u181 u182 u183 u184 u185 u186 u187 u188 u189 u190 u191 u192 u193 u194 u195 u196 u197 u198 u199 u200 u201 u202 u203 u204 u205 u206 u207 u208 u209 u210 u211 u212 u213 u214 u215 u216 u217 u218 u219 u220 u221 u222 u223 u224 u225 u226 u227 u228 u229 u230 u231 u232 u233 u234 k g B T es Q0 hlt h100 hB0 hW hF bl off hpl n term most pL cL L hra0 hlu hl30 hl5 hr2 hn64 ht64
    · exact plays_round_7 w wr nl r B0 pl cl c1 c2 c4 c5 c6 c7 c8 c9 c29 c30 c31 c32 c33 c34 c35 c36 c37 c38 c39 c40 c41 c42 c43 c44 c45 c46 c47 c48 c49 c50 c51 c52 c53 c54 c55 c56 c57 c58 c59 c235 c236 c237 c238 c239 c240 u13 u14 u15 u16 u17 u18 u19 u20 u21 u22 u23 u24 u25 u26 u27 u28 u60 u61 u62 u63 u64 u65 u66 u67 u68 u69 u70 u71 u72 u73 u74 u75 u76 u77 u78 u79 u80 u81 u82 u83 u84 u85 u86 u87 u88 u89 u90 u91 u92 u93 u94 u95 u96 u97 u98 u99 u100 u101 u102 u103 u104 u105 u106 u107 u108 u109 u110 u111 u112 u113 u114 u115 u116 u117 u118 u119 u120 u121 u122 u123 u124 u125 u126 u127 u128 u129 u130 u131 u132 u133 u134 u135 u136 u137 u138 u139 u140 u141 u142 u143 u144 u145 u146 u147 u148 u149 u150 u151 u152 u153 u154 u155 u156 u157 u158 u159 u160 u161 u162 u163 u164 u165 u166 u167 u168 u169 u170 u171 u172 u173 u174 u175 u176 u177 u178 u179 u180 u181 u182 u183 u184 u185 u186 u187 u188 u189 u190 u191 u192 u193 u194 u195 u196 u197 u198 u199 u200 u201 u202 u203 u204 u205 u206 u207 u208 u209 u210 u211 u212 u213 u214 u215 u216 u217 u218 u219 u220 u221 u222 u223 u224 u225 u226 u227 u228 u229 u230 u231 u232 u233 u234 k g B T es Q0 hlt h100 hB0 hW hF bl off hpl n term most pL cL L hra0 hlu hl30 hl5 hr2 hn64 ht64
    · exact plays_round_x w wr nl r B0 pl cl c1 c2 c4 c5 c6 c7 c8 c9 c29 c30 c31 c32 c33 c34 c35 c36 c37 c38 c39 c40 c41 c42 c43 c44 c45 c46 c47 c48 c49 c50 c51 c52 c53 c54 c55 c56 c57 c58 c59 c235 c236 c237 c238 c239 c240 u13 u14 u15 u16 u17 u18 u19 u20 u21 u22 u23 u24 u25 u26 u27 u28 u60 u61 u62 u63 u64 u65 u66 u67 u68 u69 u70 u71 u72 u73 u74 u75 u76 u77 u78 u79 u80 u81 u82 u83 u84 u85 u86 u87 u88 u89 u90 u91 u92 u93 u94 u95 u96 u97 u98 u99 u100 u101 u102 u103 u104 u105 u106 u107 u108 u109 u110 u111 u112 u113 u114 u115 u116 u117 u118 u119 u120 u121 u122 u123 u124 u125 u126 u127 u128 u129 u130 u131 u132 u133 u134 u135 u136 u137 u138 u139 u140 u141 u142 u143 u144 u145 u146 u147 u148 u149 u150 u151 u152 u153 u154 u155 u156 u157 u158 u159 u160 u161 u162 u163 u164 u165 u166 u167 u168 u169 u170 u171 u172 u173 u174 u175 u176 u177 u178 u179 u180 u181 u182 u183 u184 u185 u186 u187 u188 u189 u190 u191 u192 u193 u194 u195 u196 u197 u198 u199 u200 u201 u202 u203 u204 u205 u206 u207 u208 u209 u210 u211 u212 u213 u214 u215 u216 u217 u218 u219 u220 u221 u222 u223 u224 u225 u226 u227 u228 u229 u230 u231 u232 u233 u234 k g B T es Q0 hlt h100 hB0 hW hF bl off hpl n term kind most pL cL L hra0 hlu hl30 hl5 hr2 hn64 ht64 hkind
  · exact plays_round_end w wr nl r B0 pl cl c1 c2 c4 c5 c6 c7 c8 c9 c29 c30 c31 c32 c33 c34 c35 c36 c37 c38 c39 c40 c41 c42 c43 c44 c45 c46 c47 c48 c49 c50 c51 c52 c53 c54 c55 c56 c57 c58 c59 c235 c236 c237 c238 c239 c240 u13 u14 u15 u16 u17 u18 u19 u20 u21 u22 u23 u24 u25 u26 u27 u28 u60 u61 u62 u63 u64 u65 u66 u67 u68 u69 u70 u71 u72 u73 u74 u75 u76 u77 u78 u79 u80 u81 u82 u83 u84 u85 u86 u87 u88 u89 u90 u91 u92 u93 u94 u95 u96 u97 u98 u99 u100 u101 u102 u103 u104 u105 u106 u107 u108 u109 u110 u111 u112 u113 u114 u115 u116 u117 u118 u119 u120 u121 u122 u123 u124 u125 u126 u127 u128 u129 u130 u131 u132 u133 u134 u135 u136 u137 u138 u139 u140 u141 u142 u143 u144 u145 u146 u147 u148 u149 u150 u151 u152 u153 u154 u155 u156 u157 u158 u159 u160 u161 u162 u163 u164 u165 u166 u167 u168 u169 u170 u171 u172 u173 u174 u175 u176 u177 u178 u179 u180 u181 u182 u183 u184 u185 u186 u187 u188 u189 u190 u191 u192 u193 u194 u195 u196 u197 u198 u199 u200 u201 u202 u203 u204 u205 u206 u207 u208 u209 u210 u211 u212 u213 u214 u215 u216 u217 u218 u219 u220 u221 u222 u223 u224 u225 u226 u227 u228 u229 u230 u231 u232 u233 u234 k g B T es Q0 (by omega) h100 hW hF hexit
set_option maxRecDepth 1000000 in
set_option maxHeartbeats 64000000 in
theorem plays_loop (w w' : World) (ls : List Opd) (nl : Nat) (hnl : nl = ls.length) (r B0 : Nat) (pl : Option Addr) (cl : Nat) (c1 c2 c4 c5 c6 c7 c8 c9 c29 c30 c31 c32 c33 c34 c35 c36 c37 c38 c39 c40 c41 c42 c43 c44 c45 c46 c47 c48 c49 c50 c51 c52 c53 c54 c55 c56 c57 c58 c59 c235 c236 c237 c238 c239 c240 u10 u12 u13 u14 u15 u16 u17 u18 u19 u20 u21 u22 u23 u24 u25 u26 u27 u28 u60 u61 u62 u63 u64 u65 u66 u67 u68 u69 u70 u71 u72 u73 u74 u75 u76 u77 u78 u79 u80 u81 u82 u83 u84 u85 u86 u87 u88 u89 u90 u91 u92 u93 u94 u95 u96 u97 u98 u99 u100 u101 u102 u103 u104 u105 u106 u107 u108 u109 u110 u111 u112 u113 u114 u115 u116 u117 u118 u119 u120 u121 u122 u123 u124 u125 u126 u127 u128 u129 u130 u131 u132 u133 u134 u135 u136 u137 u138 u139 u140 u141 u142 u143 u144 u145 u146 u147 u148 u149 u150 u151 u152 u153 u154 u155 u156 u157 u158 u159 u160 u161 u162 u163 u164 u165 u166 u167 u168 u169 u170 u171 u172 u173 u174 u175 u176 u177 u178 u179 u180 u181 u182 u183 u184 u185 u186 u187 u188 u189 u190 u191 u192 u193 u194 u195 u196 u197 u198 u199 u200 u201 u202 u203 u204 u205 u206 u207 u208 u209 u210 u211 u212 u213 u214 u215 u216 u217 u218 u219 u220 u221 u222 u223 u224 u225 u226 u227 u228 u229 u230 u231 u232 u233 u234 : Value) (Q0 : Exit → Act → World → Prop) (h100 : nl ≤ 100) (hB0 : B0 < 2 ^ 64) (hO : OpsK w pl ls)
    (hexit : ∀ a' w'', WX w nl r B0 pl cl c1 c2 c4 c5 c6 c7 c8 c9 c29 c30 c31 c32 c33 c34 c35 c36 c37 c38 c39 c40 c41 c42 c43 c44 c45 c46 c47 c48 c49 c50 c51 c52 c53 c54 c55 c56 c57 c58 c59 c235 c236 c237 c238 c239 c240 a' w'' → Q0 (.exit 0) a' w'') (hrel : PRel w nl r u10 u12 w') :
    Code.wp Try.prog (Code.loop playsBody) Q0 ⟨#[.int .u64 (B0 : Int), c1, c2, .slice pl nl cl, c4, c5, c6, c7, c8, c9, u10, .pointer (some ⟨r, 0, none⟩), u12, u13, u14, u15, u16, u17, u18, u19, u20, u21, u22, u23, u24, u25, u26, u27, u28, c29, c30, c31, c32, c33, c34, c35, c36, c37, c38, c39, c40, c41, c42, c43, c44, c45, c46, c47, c48, c49, c50, c51, c52, c53, c54, c55, c56, c57, c58, c59, u60, u61, u62, u63, u64, u65, u66, u67, u68, u69, u70, u71, u72, u73, u74, u75, u76, u77, u78, u79, u80, u81, u82, u83, u84, u85, u86, u87, u88, u89, u90, u91, u92, u93, u94, u95, u96, u97, u98, u99, u100, u101, u102, u103, u104, u105, u106, u107, u108, u109, u110, u111, u112, u113, u114, u115, u116, u117, u118, u119, u120, u121, u122, u123, u124, u125, u126, u127, u128, u129, u130, u131, u132, u133, u134, u135, u136, u137, u138, u139, u140, u141, u142, u143, u144, u145, u146, u147, u148, u149, u150, u151, u152, u153, u154, u155, u156, u157, u158, u159, u160, u161, u162, u163, u164, u165, u166, u167, u168, u169, u170, u171, u172, u173, u174, u175, u176, u177, u178, u179, u180, u181, u182, u183, u184, u185, u186, u187, u188, u189, u190, u191, u192, u193, u194, u195, u196, u197, u198, u199, u200, u201, u202, u203, u204, u205, u206, u207, u208, u209, u210, u211, u212, u213, u214, u215, u216, u217, u218, u219, u220, u221, u222, u223, u224, u225, u226, u227, u228, u229, u230, u231, u232, u233, u234, c235, c236, c237, c238, c239, c240], []⟩ w' := by
  refine wp_loop (WI w nl r B0 pl cl c1 c2 c4 c5 c6 c7 c8 c9 c29 c30 c31 c32 c33 c34 c35 c36 c37 c38 c39 c40 c41 c42 c43 c44 c45 c46 c47 c48 c49 c50 c51 c52 c53 c54 c55 c56 c57 c58 c59 c235 c236 c237 c238 c239 c240) (Wmu nl) ?_ (fun a w'' hI => plays_round w w'' ls nl hnl r B0 pl cl c1 c2 c4 c5 c6 c7 c8 c9 c29 c30 c31 c32 c33 c34 c35 c36 c37 c38 c39 c40 c41 c42 c43 c44 c45 c46 c47 c48 c49 c50 c51 c52 c53 c54 c55 c56 c57 c58 c59 c235 c236 c237 c238 c239 c240 Q0 h100 hB0 hO hexit a hI)
  unfold WI
  exact ⟨u10, u12, u13, u14, u15, u16, u17, u18, u19, u20, u21, u22, u23, u24, u25, u26, u27, u28, u60, u61, u62, u63, u64, u65, u66, u67, u68, u69, u70, u71, u72, u73, u74, u75, u76, u77, u78, u79, u80, u81, u82, u83, u84, u85, u86, u87, u88, u89, u90, u91, u92, u93, u94, u95, u96, u97, u98, u99, u100, u101, u102, u103, u104, u105, u106, u107, u108, u109, u110, u111, u112, u113, u114, u115, u116, u117, u118, u119, u120, u121, u122, u123, u124, u125, u126, u127, u128, u129, u130, u131, u132, u133, u134, u135, u136, u137, u138, u139, u140, u141, u142, u143, u144, u145, u146, u147, u148, u149, u150, u151, u152, u153, u154, u155, u156, u157, u158, u159, u160, u161, u162, u163, u164, u165, u166, u167, u168, u169, u170, u171, u172, u173, u174, u175, u176, u177, u178, u179, u180, u181, u182, u183, u184, u185, u186, u187, u188, u189, u190, u191, u192, u193, u194, u195, u196, u197, u198, u199, u200, u201, u202, u203, u204, u205, u206, u207, u208, u209, u210, u211, u212, u213, u214, u215, u216, u217, u218, u219, u220, u221, u222, u223, u224, u225, u226, u227, u228, u229, u230, u231, u232, u233, u234, hrel, rfl⟩
set_option maxRecDepth 100000 in
set_option maxHeartbeats 64000000 in
theorem plays_go_w (B0 T0 : Nat) (v lv : Value) (fs : List Ent) (ls : List Opd) (w : World) (h1 : EsR w (fun b => b < w.heap.size) v fs) (k1 : ∀ e ∈ fs, e.2.length ≤ 140737488351232) (h2 : OpsV w lv ls) (hB : B0 < 2 ^ 64) (hT : T0 < 2 ^ 64)
    (hl1 : fs.length ≤ 30) (ht1 : tameR (ls.map (·.2.2.2.2)) = true) (ht2 : tameR [fs] = true) :
    Calls Try.prog 6 #[.int .u64 (B0 : Int), .int .u64 (T0 : Int), v, lv] w fun r w' => r = .returned (.bool true) ∧ Below w.heap.size w w' := by
  obtain ⟨p1, c1, rfl⟩ := h1.len_form
  have HTm1 := Lib.hid (tame_w lv _ w h2.opsL (fun x hx e he => by
    obtain ⟨o, ho, rfl⟩ := List.mem_map.1 hx
    obtain ⟨p, c, _, _, hall⟩ := h2
    exact Nat.le_trans ((hall o ho).2.2.2.2 e he) (by decide)))
  rw [ht1] at HTm1
  have HTm2 := Lib.hid (fun W (hW : EsR W (fun b => b < w.heap.size) (.slice p1 fs.length c1) fs) => tame1_w _ fs W _ hW k1)
  rw [ht2] at HTm2
  obtain ⟨pl, cl, rfl⟩ : ∃ p c, lv = .slice p ls.length c := by obtain ⟨p, c, e, _⟩ := h2; exact ⟨p, c, e⟩
  obtain ⟨hl100, hls⟩ := tame_es ht1
  have Hls := Lib.hid hls
  have hfs5 : ∀ e ∈ fs, e.2.length ≤ 50000 := fun e he => by
    unfold tameR at ht2
    simp only [decide_eq_true_eq] at ht2
    have := le_dsum fs e he
    have := ht2.2.2
    simp only [osum] at this
    omega
  have Hfs := Lib.hid (And.intro hl1 hfs5)
  have H1 := Lib.hid h1
  have Hops := Lib.hid (show (ls ≠ [] → ∃ b off, pl = some ⟨b, off, none⟩ ∧ b < w.heap.size ∧ ∀ i (hi : i < ls.length), ∃ u, w.rangeAt b (off + i * 5) [.int .i64 ls[i].1, .int .i64 ls[i].2.1, .int .u64 (ls[i].2.2.1 : Int), .int .u64 (ls[i].2.2.2.1 : Int), u] ∧ EsR w (fun b => b < w.heap.size) u ls[i].2.2.2.2) ∧
      ∀ o ∈ ls, (-9223372036854775808 ≤ o.1 ∧ o.1 ≤ 9223372036854775807) ∧ (-9223372036854775808 ≤ o.2.1 ∧ o.2.1 ≤ 9223372036854775807) ∧ o.2.2.1 < 2 ^ 64 ∧ o.2.2.2.1 < 2 ^ 64 ∧ ∀ e ∈ o.2.2.2.2, e.2.length ≤ 140737488351232 from by
    obtain ⟨p, c, e, q, r⟩ := h2
    cases e
    exact ⟨q, r⟩)
  have d1 : decide (30 < (fs.length : Int)) = false := by simp; omega
  clear h1 h2 k1 ht1 ht2 hls hfs5
  go_enter Try.func6, Try.ntmps6
  go_wp2_with (first
    | (go_at_call 21; first
        | (refine (HTm1.out).mono ?_; rintro r w1 ⟨rfl, hB⟩; have HB1 := Lib.hid hB; have HE1 := Lib.hid (H1.out.keeps hB.block); have HB1a := Lib.hid (hB.trans ((tame1_b w1 (.slice p1 fs.length c1)).mono hB.size)); clear hB HTm1)
        | (refine (HTm2.out _ HE1.out).mono ?_; rintro r w2 ⟨rfl, hB⟩; have HB2 := Lib.hid (HB1a.out.trans (hB.mono HB1a.out.size)); have HE2 := Lib.hid (H1.out.keeps HB2.out.block); clear hB HTm2))
    | (go_at_call 30; refine (copies_w _ _ fs _ HE2.out (by omega) (fun e he => Nat.le_trans (Hfs.out.2 e he) (by decide))).mono ?_; rintro r w3 ⟨iv, rfl, hi, hB⟩; obtain ⟨pi, ci, rfl⟩ := hi.form; have HI3 := Lib.hid hi; have HBq := Lib.hid hB; have HB3 := Lib.hid (HB2.out.trans (hB.mono HB2.out.size)); clear hi hB)
    | (go_at_call 22; refine (new_w (fun b => w2.heap.size ≤ b) B0 T0 _ fs w3 hB hT HI3.out.rd (by omega) (fun e he => Nat.le_trans (Hfs.out.2 e he) (by decide))).mono ?_; rintro r w4 ⟨rfl, ⟨v4, ht⟩, hB⟩; have HT4 := Lib.hid ht; have HBr := Lib.hid hB; have HK5 := Lib.hid (RkAt.new w4 B0 T0 (by omega) (by omega)); have HB4 := Lib.hid (HB3.out.trans (hB.mono HB3.out.size)); have HE5 := Lib.hid ((H1.out.keeps HB4.out.block).keeps ((Keeps.refl w4).alloc (.cells #[.int .u64 (B0 : Int), .int .u64 (T0 : Int), .slice none 0 0] 59))); have HI4 := Lib.hid ((HI3.out.mono (S' := fun b => w2.heap.size ≤ b ∧ b < w3.heap.size) (fun b hb h => ⟨h, hb⟩)).keeps hB.block); have hs34 := hB.size; have hs23 := HBq.out.size; clear ht hB)
    | (go_at_call 31; go_loud (refine (radd_w _ _ _ B0 T0 _ _ [] fs _ HK5.out HE5.out (fun b _ h e => by have h2 : b < w.heap.size := h; have e2 : b = w4.heap.size := e; have := HB4.out.size; omega) (by simp; omega) (fun e he => Nat.le_trans (Hfs.out.2 e he) (by decide))).mono ?_; rintro r w6 ⟨⟨x6, rfl⟩, qv6, hk, hto⟩; have HK6 := Lib.hid (show RkAt w6 (fun b => b = w4.heap.size ∨ (w4.alloc (.cells #[.int .u64 (B0 : Int), .int .u64 (T0 : Int), .slice none 0 0] 59)).heap.size ≤ b) w4.heap.size B0 T0 qv6 (fs.take (18446744073709551615 - B0)) from hk); have HTo6 := Lib.hid hto; have HI6 := Lib.hid ((HI4.out.keeps ((Keeps.refl w4).alloc (.cells #[.int .u64 (B0 : Int), .int .u64 (T0 : Int), .slice none 0 0] 59))).frame (fun b hb => hto.block b (by have := hb.2; rw [heap_alloc_size]; omega) (fun e => by have e2 : b = w4.heap.size := e; have := hb.2; omega))); clear hk hto))
    | (go_at_call 32; refine (spoil_w _ _ _ _ HI6.out (by omega) (fun e he => Nat.le_trans (Hfs.out.2 e he) (by decide))).mono ?_; rintro r w7 ⟨⟨x7, rfl⟩, hto⟩; have HTo7 := Lib.hid hto; clear hto))
  have HO := Lib.hid (show OpsK w pl ls from ⟨Hops.out.1, Hops.out.2, Hls.out⟩)
  have HW0 := Lib.hid (Two.start (w := w) (s2 := w2.heap.size) HB2.out.size hs23 HB3.out HBr.out rfl HT4.out HK6.out HTo6.out HTo7.out)
  have HF0 := Lib.hid (show Few (fs.take (18446744073709551615 - B0)) 0 from ⟨by rw [List.length_take]; omega, fun e he => Hfs.out.2 e (List.mem_of_mem_take he)⟩)
  clear HTo6 HTo7 HK6 HK5 HT4 HBr HI3 HI4 HI6 HE1 HE2 HE5 HB1a HB1 HB2 HB3 HB4 HBq H1 hs34 hs23 Hfs
  generalize w3.heap.size = g0 at *
  generalize w4.heap.size = r at *
  generalize fs.take (18446744073709551615 - B0) = es0 at *
  refine plays_loop w _ ls ls.length rfl r B0 pl cl _ _ _ _ _ _ _ _ _ _ _ _ _ _ _ _ _ _ _ _ _ _ _ _ _ _ _ _ _ _ _ _ _ _ _ _ _ _ _ _ _ _ _ _ _ _ _ _ _ _ _ _ _ _ _ _ _ _ _ _ _ _ _ _ _ _ _ _ _ _ _ _ _ _ _ _ _ _ _ _ _ _ _ _ _ _ _ _ _ _ _ _ _ _ _ _ _ _ _ _ _ _ _ _ _ _ _ _ _ _ _ _ _ _ _ _ _ _ _ _ _ _ _ _ _ _ _ _ _ _ _ _ _ _ _ _ _ _ _ _ _ _ _ _ _ _ _ _ _ _ _ _ _ _ _ _ _ _ _ _ _ _ _ _ _ _ _ _ _ _ _ _ _ _ _ _ _ _ _ _ _ _ _ _ _ _ _ _ _ _ _ _ _ _ _ _ _ _ _ _ _ _ _ _ _ _ _ _ _ _ _ _ _ _ _ _ _ _ _ _ _ _ _ _ _ _ _ _ _ _ _ _ _ _ _ _ _ _ _ hl100 hB HO.out ?_ ?_
  · intro a' w'' hX
    unfold WX at hX
    obtain ⟨u10, hX⟩ := hX
    obtain ⟨u12, hX⟩ := hX
    obtain ⟨u13, hX⟩ := hX
    obtain ⟨u14, hX⟩ := hX
    obtain ⟨u15, hX⟩ := hX
    obtain ⟨u16, hX⟩ := hX
    obtain ⟨u17, hX⟩ := hX
    obtain ⟨u18, hX⟩ := hX
    obtain ⟨u19, hX⟩ := hX
    obtain ⟨u20, hX⟩ := hX
    obtain ⟨u21, hX⟩ := hX
    obtain ⟨u22, hX⟩ := hX
    obtain ⟨u23, hX⟩ := hX
    obtain ⟨u24, hX⟩ := hX
    obtain ⟨u25, hX⟩ := hX
    obtain ⟨u26, hX⟩ := hX
    obtain ⟨u27, hX⟩ := hX
    obtain ⟨u28, hX⟩ := hX
    obtain ⟨u60, hX⟩ := hX
    obtain ⟨u61, hX⟩ := hX
    obtain ⟨u62, hX⟩ := hX
    obtain ⟨u63, hX⟩ := hX
    obtain ⟨u64, hX⟩ := hX
    obtain ⟨u65, hX⟩ := hX
    obtain ⟨u66, hX⟩ := hX
    obtain ⟨u67, hX⟩ := hX
    obtain ⟨u68, hX⟩ := hX
    obtain ⟨u69, hX⟩ := hX
    obtain ⟨u70, hX⟩ := hX
    obtain ⟨u71, hX⟩ := hX
    obtain ⟨u72, hX⟩ := hX
    obtain ⟨u73, hX⟩ := hX
    obtain ⟨u74, hX⟩ := hX
    obtain ⟨u75, hX⟩ := hX
    obtain ⟨u76, hX⟩ := hX
    obtain ⟨u77, hX⟩ := hX
    obtain ⟨u78, hX⟩ := hX
    obtain ⟨u79, hX⟩ := hX
    obtain ⟨u80, hX⟩ := hX
    obtain ⟨u81, hX⟩ := hX
    obtain ⟨u82, hX⟩ := hX
    obtain ⟨u83, hX⟩ := hX
    obtain ⟨u84, hX⟩ := hX
    obtain ⟨u85, hX⟩ := hX
    obtain ⟨u86, hX⟩ := hX
    obtain ⟨u87, hX⟩ := hX
    obtain ⟨u88, hX⟩ := hX
    obtain ⟨u89, hX⟩ := hX
    obtain ⟨u90, hX⟩ := hX
    obtain ⟨u91, hX⟩ := hX
    obtain ⟨u92, hX⟩ := hX
    obtain ⟨u93, hX⟩ := hX
    obtain ⟨u94, hX⟩ := hX
    obtain ⟨u95, hX⟩ := hX
    obtain ⟨u96, hX⟩ := hX
    obtain ⟨u97, hX⟩ := hX
    obtain ⟨u98, hX⟩ := hX
    obtain ⟨u99, hX⟩ := hX
    obtain ⟨u100, hX⟩ := hX
    obtain ⟨u101, hX⟩ := hX
    obtain ⟨u102, hX⟩ := hX
    obtain ⟨u103, hX⟩ := hX
    obtain ⟨u104, hX⟩ := hX
    obtain ⟨u105, hX⟩ := hX
    obtain ⟨u106, hX⟩ := hX
    obtain ⟨u107, hX⟩ := hX
    obtain ⟨u108, hX⟩ := hX
    obtain ⟨u109, hX⟩ := hX
    obtain ⟨u110, hX⟩ := hX
    obtain ⟨u111, hX⟩ := hX
    obtain ⟨u112, hX⟩ := hX
    obtain ⟨u113, hX⟩ := hX
    obtain ⟨u114, hX⟩ := hX
    obtain ⟨u115, hX⟩ := hX
    obtain ⟨u116, hX⟩ := hX
    obtain ⟨u117, hX⟩ := hX
    obtain ⟨u118, hX⟩ := hX
    obtain ⟨u119, hX⟩ := hX
    obtain ⟨u120, hX⟩ := hX
    obtain ⟨u121, hX⟩ := hX
    obtain ⟨u122, hX⟩ := hX
    obtain ⟨u123, hX⟩ := hX
    obtain ⟨u124, hX⟩ := hX
    obtain ⟨u125, hX⟩ := hX
    obtain ⟨u126, hX⟩ := hX
    obtain ⟨u127, hX⟩ := hX
    obtain ⟨u128, hX⟩ := hX
    obtain ⟨u129, hX⟩ := hX
    obtain ⟨u130, hX⟩ := hX
    obtain ⟨u131, hX⟩ := hX
    obtain ⟨u132, hX⟩ := hX
    obtain ⟨u133, hX⟩ := hX
    obtain ⟨u134, hX⟩ := hX
    obtain ⟨u135, hX⟩ := hX
    obtain ⟨u136, hX⟩ := hX
    obtain ⟨u137, hX⟩ := hX
    obtain ⟨u138, hX⟩ := hX
    obtain ⟨u139, hX⟩ := hX
    obtain ⟨u140, hX⟩ := hX
    obtain ⟨u141, hX⟩ := hX
    obtain ⟨u142, hX⟩ := hX
    obtain ⟨u143, hX⟩ := hX
    obtain ⟨u144, hX⟩ := hX
    obtain ⟨u145, hX⟩ := hX
    obtain ⟨u146, hX⟩ := hX
    obtain ⟨u147, hX⟩ := hX
    obtain ⟨u148, hX⟩ := hX
    obtain ⟨u149, hX⟩ := hX
    obtain ⟨u150, hX⟩ := hX
    obtain ⟨u151, hX⟩ := hX
    obtain ⟨u152, hX⟩ := hX
    obtain ⟨u153, hX⟩ := hX
    obtain ⟨u154, hX⟩ := hX
    obtain ⟨u155, hX⟩ := hX
    obtain ⟨u156, hX⟩ := hX
    obtain ⟨u157, hX⟩ := hX
    obtain ⟨u158, hX⟩ := hX
    obtain ⟨u159, hX⟩ := hX
    obtain ⟨u160, hX⟩ := hX
    obtain ⟨u161, hX⟩ := hX
    obtain ⟨u162, hX⟩ := hX
    obtain ⟨u163, hX⟩ := hX
    obtain ⟨u164, hX⟩ := hX
    obtain ⟨u165, hX⟩ := hX
    obtain ⟨u166, hX⟩ := hX
    obtain ⟨u167, hX⟩ := hX
    obtain ⟨u168, hX⟩ := hX
    obtain ⟨u169, hX⟩ := hX
    obtain ⟨u170, hX⟩ := hX
    obtain ⟨u171, hX⟩ := hX
    obtain ⟨u172, hX⟩ := hX
    obtain ⟨u173, hX⟩ := hX
    obtain ⟨u174, hX⟩ := hX
    obtain ⟨u175, hX⟩ := hX
    obtain ⟨u176, hX⟩ := hX
    obtain ⟨u177, hX⟩ := hX
    obtain ⟨u178, hX⟩ := hX
    obtain ⟨u179, hX⟩ := hX
    obtain ⟨u180, hX⟩ := hX
    obtain ⟨u181, hX⟩ := hX
    obtain ⟨u182, hX⟩ := hX
    obtain ⟨u183, hX⟩ := hX
    obtain ⟨u184, hX⟩ := hX
    obtain ⟨u185, hX⟩ := hX
    obtain ⟨u186, hX⟩ := hX
    obtain ⟨u187, hX⟩ := hX
    obtain ⟨u188, hX⟩ := hX
    obtain ⟨u189, hX⟩ := hX
    obtain ⟨u190, hX⟩ := hX
    obtain ⟨u191, hX⟩ := hX
    obtain ⟨u192, hX⟩ := hX
    obtain ⟨u193, hX⟩ := hX
    obtain ⟨u194, hX⟩ := hX
    obtain ⟨u195, hX⟩ := hX
    obtain ⟨u196, hX⟩ := hX
    obtain ⟨u197, hX⟩ := hX
    obtain ⟨u198, hX⟩ := hX
    obtain ⟨u199, hX⟩ := hX
    obtain ⟨u200, hX⟩ := hX
    obtain ⟨u201, hX⟩ := hX
    obtain ⟨u202, hX⟩ := hX
    obtain ⟨u203, hX⟩ := hX
    obtain ⟨u204, hX⟩ := hX
    obtain ⟨u205, hX⟩ := hX
    obtain ⟨u206, hX⟩ := hX
    obtain ⟨u207, hX⟩ := hX
    obtain ⟨u208, hX⟩ := hX
    obtain ⟨u209, hX⟩ := hX
    obtain ⟨u210, hX⟩ := hX
    obtain ⟨u211, hX⟩ := hX
    obtain ⟨u212, hX⟩ := hX
    obtain ⟨u213, hX⟩ := hX
    obtain ⟨u214, hX⟩ := hX
    obtain ⟨u215, hX⟩ := hX
    obtain ⟨u216, hX⟩ := hX
    obtain ⟨u217, hX⟩ := hX
    obtain ⟨u218, hX⟩ := hX
    obtain ⟨u219, hX⟩ := hX
    obtain ⟨u220, hX⟩ := hX
    obtain ⟨u221, hX⟩ := hX
    obtain ⟨u222, hX⟩ := hX
    obtain ⟨u223, hX⟩ := hX
    obtain ⟨u224, hX⟩ := hX
    obtain ⟨u225, hX⟩ := hX
    obtain ⟨u226, hX⟩ := hX
    obtain ⟨u227, hX⟩ := hX
    obtain ⟨u228, hX⟩ := hX
    obtain ⟨u229, hX⟩ := hX
    obtain ⟨u230, hX⟩ := hX
    obtain ⟨u231, hX⟩ := hX
    obtain ⟨u232, hX⟩ := hX
    obtain ⟨u233, hX⟩ := hX
    obtain ⟨u234, hX⟩ := hX
    obtain ⟨⟨g, B, T, es, rfl, hW, hF⟩, rfl⟩ := hX
    obtain ⟨S, R, v9, qv9, ht, hkk, dS, dR, dSR⟩ := hW.two
    have HT9 := Lib.hid ht
    have HK9 := Lib.hid hkk
    have HWb := Lib.hid hW.below
    have HF := Lib.hid hF
    have hn6 : es.length ≤ 3030 := hF.n6 hl100
    clear ht hkk dS dR dSR hW hF
    go_wp2_with (first
      | (go_at_call 41; refine (sameall_w _ _ _ _ _ _ _ _ _ _ HT9.out HK9.out (by omega) (fun e he => Nat.le_trans (HF.out.2 e he) (by decide))).mono ?_; rintro r9 w9 ⟨rfl, hB⟩; have HB9 := Lib.hid (HWb.out.trans (hB.mono HWb.out.size)); clear hB)
      | (go_at_call 15; refine (known24_w _).mono ?_; rintro r13 w13 ⟨rfl, hB⟩; have HB13 := Lib.hid (HB9.out.trans (hB.mono HB9.out.size)); clear hB))
    go_ret
    exact ⟨rfl, HB13.out⟩
  · exact ⟨0, g0, B0, T0, es0, Nat.zero_le _, rfl, rfl, HW0.out, HF0.out⟩
end Go.Proofs.Yteellfgiejnigaa
