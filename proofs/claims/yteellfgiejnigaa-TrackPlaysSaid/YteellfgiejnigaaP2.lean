/- TrackPlays: a round's case (kind 2). -/
import Derived.Test.YteellfgiejnigaaT33
namespace Go.Proofs.Yteellfgiejnigaa
open Go.ChangeShapes Go.WideShapes Go.ChangeAt Go.RowKit
set_option linter.unusedVariables false

set_option maxRecDepth 1000000 in
set_option maxHeartbeats 64000000 in
theorem plays_round_2 (w wr : World) (nl r B0 : Nat) (pl : Option Addr) (cl : Nat) (c1 c2 c4 c5 c6 c7 c8 c9 c29 c30 c31 c32 c33 c34 c35 c36 c37 c38 c39 c40 c41 c42 c43 c44 c45 c46 c47 c48 c49 c50 c51 c52 c53 c54 c55 c56 c57 c58 c59 c235 c236 c237 c238 c239 c240 u13 u14 u15 u16 u17 u18 u19 u20 u21 u22 u23 u24 u25 u26 u27 u28 u60 u61 u62 u63 u64 u65 u66 u67 u68 u69 u70 u71 u72 u73 u74 u75 u76 u77 u78 u79 u80 u81 u82 u83 u84 u85 u86 u87 u88 u89 u90 u91 u92 u93 u94 u95 u96 u97 u98 u99 u100 u101 u102 u103 u104 u105 u106 u107 u108 u109 u110 u111 u112 u113 u114 u115 u116 u117 u118 u119 u120 u121 u122 u123 u124 u125 u126 u127 u128 u129 u130 u131 u132 u133 u134 u135 u136 u137 u138 u139 u140 u141 u142 u143 u144 u145 u146 u147 u148 u149 u150 u151 u152 u153 u154 u155 u156 u157 u158 u159 u160 u161 u162 u163 u164 u165 u166 u167 u168 u169 u170 u171 u172 u173 u174 u175 u176 u177 u178 u179 u180 u181 u182 u183 u184 u185 u186 u187 u188 u189 u190 u191 u192 u193 u194 u195 u196 u197 u198 u199 u200 u201 u202 u203 u204 u205 u206 u207 u208 u209 u210 u211 u212 u213 u214 u215 u216 u217 u218 u219 u220 u221 u222 u223 u224 u225 u226 u227 u228 u229 u230 u231 u232 u233 u234 : Value) (k g B T : Nat) (es : List Ent) (Q0 : Exit → Act → World → Prop) (hlt : k < nl) (h100 : nl ≤ 100) (hB0 : B0 < 2 ^ 64) (hW : Two w wr g r B T es) (hF : Few es k) (bl off : Nat) (hpl : pl = some ⟨bl, off, none⟩) (n term : Nat) ( most : Int) (pL : Option Addr) (cL : Nat) (L : List Ent) (hra0 : wr.rangeAt bl (off + k * 5) [.int .i64 2, .int .i64 most, .int .u64 (n : Int), .int .u64 (term : Int), .slice pL L.length cL]) (hlu : EsR w (fun b => b < w.heap.size) (.slice pL L.length cL) L) (hl30 : L.length ≤ 30) (hl5 : ∀ e ∈ L, e.2.length ≤ 50000) (hr2 : -9223372036854775808 ≤ most ∧ most ≤ 9223372036854775807) (hn64 : n < 2 ^ 64) (ht64 : term < 2 ^ 64) :
    Code.wp Try.prog playsBody (Exit.then (fun a' w'' => WI w nl r B0 pl cl c1 c2 c4 c5 c6 c7 c8 c9 c29 c30 c31 c32 c33 c34 c35 c36 c37 c38 c39 c40 c41 c42 c43 c44 c45 c46 c47 c48 c49 c50 c51 c52 c53 c54 c55 c56 c57 c58 c59 c235 c236 c237 c238 c239 c240 a' w'' ∧ Wmu nl a' w'' < Wmu nl ⟨#[.int .u64 (B0 : Int), c1, c2, .slice pl nl cl, c4, c5, c6, c7, c8, c9, .pointer (some ⟨g, 0, none⟩), .pointer (some ⟨r, 0, none⟩), .int .i64 (k : Int), u13, u14, u15, u16, u17, u18, u19, u20, u21, u22, u23, u24, u25, u26, u27, u28, c29, c30, c31, c32, c33, c34, c35, c36, c37, c38, c39, c40, c41, c42, c43, c44, c45, c46, c47, c48, c49, c50, c51, c52, c53, c54, c55, c56, c57, c58, c59, u60, u61, u62, u63, u64, u65, u66, u67, u68, u69, u70, u71, u72, u73, u74, u75, u76, u77, u78, u79, u80, u81, u82, u83, u84, u85, u86, u87, u88, u89, u90, u91, u92, u93, u94, u95, u96, u97, u98, u99, u100, u101, u102, u103, u104, u105, u106, u107, u108, u109, u110, u111, u112, u113, u114, u115, u116, u117, u118, u119, u120, u121, u122, u123, u124, u125, u126, u127, u128, u129, u130, u131, u132, u133, u134, u135, u136, u137, u138, u139, u140, u141, u142, u143, u144, u145, u146, u147, u148, u149, u150, u151, u152, u153, u154, u155, u156, u157, u158, u159, u160, u161, u162, u163, u164, u165, u166, u167, u168, u169, u170, u171, u172, u173, u174, u175, u176, u177, u178, u179, u180, u181, u182, u183, u184, u185, u186, u187, u188, u189, u190, u191, u192, u193, u194, u195, u196, u197, u198, u199, u200, u201, u202, u203, u204, u205, u206, u207, u208, u209, u210, u211, u212, u213, u214, u215, u216, u217, u218, u219, u220, u221, u222, u223, u224, u225, u226, u227, u228, u229, u230, u231, u232, u233, u234, c235, c236, c237, c238, c239, c240], []⟩ wr) Q0) ⟨#[.int .u64 (B0 : Int), c1, c2, .slice pl nl cl, c4, c5, c6, c7, c8, c9, .pointer (some ⟨g, 0, none⟩), .pointer (some ⟨r, 0, none⟩), .int .i64 (k : Int), u13, u14, u15, u16, u17, u18, u19, u20, u21, u22, u23, u24, u25, u26, u27, u28, c29, c30, c31, c32, c33, c34, c35, c36, c37, c38, c39, c40, c41, c42, c43, c44, c45, c46, c47, c48, c49, c50, c51, c52, c53, c54, c55, c56, c57, c58, c59, u60, u61, u62, u63, u64, u65, u66, u67, u68, u69, u70, u71, u72, u73, u74, u75, u76, u77, u78, u79, u80, u81, u82, u83, u84, u85, u86, u87, u88, u89, u90, u91, u92, u93, u94, u95, u96, u97, u98, u99, u100, u101, u102, u103, u104, u105, u106, u107, u108, u109, u110, u111, u112, u113, u114, u115, u116, u117, u118, u119, u120, u121, u122, u123, u124, u125, u126, u127, u128, u129, u130, u131, u132, u133, u134, u135, u136, u137, u138, u139, u140, u141, u142, u143, u144, u145, u146, u147, u148, u149, u150, u151, u152, u153, u154, u155, u156, u157, u158, u159, u160, u161, u162, u163, u164, u165, u166, u167, u168, u169, u170, u171, u172, u173, u174, u175, u176, u177, u178, u179, u180, u181, u182, u183, u184, u185, u186, u187, u188, u189, u190, u191, u192, u193, u194, u195, u196, u197, u198, u199, u200, u201, u202, u203, u204, u205, u206, u207, u208, u209, u210, u211, u212, u213, u214, u215, u216, u217, u218, u219, u220, u221, u222, u223, u224, u225, u226, u227, u228, u229, u230, u231, u232, u233, u234, c235, c236, c237, c238, c239, c240], []⟩ wr := by
  subst hpl
  have HW := Lib.hid hW
  have HF := Lib.hid hF
  have hn6 : es.length ≤ 3030 := hF.n6 (by omega)
  have HLU := Lib.hid hlu
  have Hra := Lib.hid hra0
  obtain ⟨w2x, HW2, ho2, hB2⟩ := stored39 wr (.int .i64 2) (.int .i64 most) (.int .u64 (n : Int)) (.int .u64 (term : Int)) (.slice pL L.length cL)
  obtain ⟨S, R, vt, ut, M2⟩ := HW.out.mid ho2 hB2
  have HZ := Lib.hid (heap_alloc_new wr (.cells #[.int .i64 0, .int .i64 0, .int .u64 0, .int .u64 0, .slice none 0 0] 39))
  have o24 := M2.oat 4
  have o20 := M2.oat 0
  simp only [List.getElem?_toArray, List.getElem?_cons_zero, List.getElem?_cons_succ] at o20 o24
  have HM2 := Lib.hid M2
  have Hl5 := Lib.hid hl5
  have Hf5 := Lib.hid hF.2
  have Hone := Lib.hid (show (#[Value.int .i64 2, .int .i64 most, .int .u64 (n : Int), .int .u64 (term : Int), .slice pL L.length cL]).all (·.oneCell') = true by simp [Value.oneCell'])
  clear hra0 hlu ho2 hB2 M2 hl5 hW hF
  conv => arg 2; whnf
  go_wp2_with (first
    | (refine wpList_load_mid rfl 39 (.tmp 68) rfl _ _ rfl [.int .i64 2, .int .i64 most, .int .u64 (n : Int), .int .u64 (term : Int), .slice pL L.length cL] _ Hra.out Try.underlying39 rfl (show _ = some 5 by kernel_rfl) ?_)
    | (refine wpList_alloc_zero rfl 39 rfl _ hz39 ?_)
    | (refine wpList_store_rowTo rfl 39 (.tmp 13) (.tmp 69) rfl rfl _ #[.int .i64 2, .int .i64 most, .int .u64 (n : Int), .int .u64 (term : Int), .slice pL L.length cL] rfl rfl 39 #[.int .i64 0, .int .i64 0, .int .u64 0, .int .u64 0, .slice none 0 0] HZ.out (show _ = some 5 by kernel_rfl) rfl Hone.out ?_; rw [HW2.out])
    | (go_at_call 30; refine (copies_w _ _ L _ (HM2.out.inp HLU.out) (by omega) (fun e he => Nat.le_trans (Hl5.out e he) (by decide))).mono ?_; rintro r3 w3x ⟨ix, rfl, hi, hB⟩; obtain ⟨px, cx, rfl⟩ := hi.form; have M3 := HM2.out.keep hB; have HD3 := Lib.hid (Side.new HM2.out hB hi); have o30 := M3.oat 0; have o31 := M3.oat 1; have o32 := M3.oat 2; have o33 := M3.oat 3; have o34 := M3.oat 4; simp only [List.getElem?_toArray, List.getElem?_cons_zero, List.getElem?_cons_succ] at o30 o31 o32 o33 o34; have HM3 := Lib.hid M3; have hs23 := hB.size; clear hi hB M3 HM2 o20 o24))
  cases hmay : mayI B es.length n with
  | true =>
    have Hmay := Lib.hid hmay
    clear hmay
    have Hstart := Lib.hid (show ∃ a c, Jn w wr.heap.size #[.int .i64 2, .int .i64 most, .int .u64 (n : Int), .int .u64 (term : Int), .slice pL L.length cL] g r (packX B T es n) (fun b => w2x.heap.size ≤ b ∧ b < w3x.heap.size) (.slice px L.length cx) L a c w3x.drew from ⟨false, false, S, R, vt, ut, HM3.out.keep (Below.refl _ _).drew, HD3.out.keep (Below.refl _ _).drew⟩)
    apply RegS.wp_region_S rfl 241 8 rfl (by kernel_rfl) (JR w wr.heap.size #[.int .i64 2, .int .i64 most, .int .u64 (n : Int), .int .u64 (term : Int), .slice pL L.length cL] g r (packX B T es n) (fun b => w2x.heap.size ≤ b ∧ b < w3x.heap.size) (.slice px L.length cx) L) JR.refl JR.trans
    · apply RegS.T_pure rfl rfl rfl
      · intro W hR; go_simp; rfl
      simp only [List.set_cons_succ, List.set_cons_zero, Nat.reduceAdd]
      apply RegS.T_pure (v := .pointer (some ⟨wr.heap.size, 2, none⟩)) rfl rfl rfl
      · intro W hR; clear hR; go_simp
      simp only [List.set_cons_succ, List.set_cons_zero, Nat.reduceAdd]
      apply RegS.T_pure (v := .int .u64 (n : Int)) rfl rfl rfl
      · intro W hR
        have hc := Jn.cell (hR.1 Hstart.out) 2
        simp only [List.getElem?_toArray, List.getElem?_cons_zero, List.getElem?_cons_succ] at hc
        clear hR
        go_simp
      simp only [List.set_cons_succ, List.set_cons_zero, Nat.reduceAdd]
      apply RegS.T_write rfl rfl rfl none (J1 w wr.heap.size #[.int .i64 2, .int .i64 most, .int .u64 (n : Int), .int .u64 (term : Int), .slice pL L.length cL] g r (packX B T es n) (fun b => w2x.heap.size ≤ b ∧ b < w3x.heap.size) (.slice px L.length cx) L) (fun y x z hR ⟨e, c, h⟩ => ⟨e, c, h.grow hR⟩)
      · intro W hR hf
        have Hc := Lib.hid (Jn.opT (hR.1 Hstart.out) (fun a S v h => packT W S g B T n v es Hmay.out (by omega) a h))
        clear hR hf
        go_simp
        exact RegS.OpOK_enter Hc.out (fun e w' ⟨he, hj, hjr⟩ => ⟨_, he, ⟨rfl, hj⟩, hjr⟩)
      intro vA
      simp only [List.set_cons_succ, List.set_cons_zero, Nat.reduceAdd]
      apply RegS.T_pure rfl rfl rfl
      · intro W hR; go_simp; rfl
      simp only [List.set_cons_succ, List.set_cons_zero, Nat.reduceAdd]
      apply RegS.T_pure (v := .pointer (some ⟨wr.heap.size, 2, none⟩)) rfl rfl rfl
      · intro W hR; clear hR; go_simp
      simp only [List.set_cons_succ, List.set_cons_zero, Nat.reduceAdd]
      apply RegS.T_pure (v := .int .u64 (n : Int)) rfl rfl rfl
      · intro W hR
        have hc := Jn.cell (hR.1 Hstart.out) 2
        simp only [List.getElem?_toArray, List.getElem?_cons_zero, List.getElem?_cons_succ] at hc
        clear hR
        go_simp
      simp only [List.set_cons_succ, List.set_cons_zero, Nat.reduceAdd]
      apply RegS.T_write rfl rfl rfl none (J2 w wr.heap.size #[.int .i64 2, .int .i64 most, .int .u64 (n : Int), .int .u64 (term : Int), .slice pL L.length cL] g r (packX B T es n) (fun b => w2x.heap.size ≤ b ∧ b < w3x.heap.size) (.slice px L.length cx) L) (fun y x z hR ⟨e, c, h⟩ => ⟨e, c, h.grow hR⟩)
      · intro W hR hf
        have Hc := Lib.hid (Jn.opR (hR.1 Hstart.out) (fun a S v h => packR W S r B T n v es Hmay.out (by omega) a h))
        clear hR hf
        go_simp
        exact RegS.OpOK_enter Hc.out (fun e w' ⟨he, hj, hjr⟩ => ⟨_, he, ⟨rfl, hj⟩, hjr⟩)
      intro vC
      simp only [List.set_cons_succ, List.set_cons_zero, Nat.reduceAdd]
      refine RegS.T_tail (fun W5 hR hf => ?_)
      have hC : J2 w wr.heap.size #[.int .i64 2, .int .i64 most, .int .u64 (n : Int), .int .u64 (term : Int), .slice pL L.length cL] g r (packX B T es n) (fun b => w2x.heap.size ≤ b ∧ b < w3x.heap.size) (.slice px L.length cx) L vC W5 := hf _ (.head _) (.inl rfl)
      have hA : J1 w wr.heap.size #[.int .i64 2, .int .i64 most, .int .u64 (n : Int), .int .u64 (term : Int), .slice pL L.length cL] g r (packX B T es n) (fun b => w2x.heap.size ≤ b ∧ b < w3x.heap.size) (.slice px L.length cx) L vA W5 := hf _ (.tail _ (.head _)) (.inl rfl)
      obtain ⟨rfl, hC⟩ := hC
      obtain ⟨rfl, hA⟩ := hA
      obtain ⟨S5, R5, v5, u5, M5, D5⟩ := Jn.both hA hC
      have HM5 := Lib.hid M5
      have HD5 := Lib.hid D5
      clear hR hf hA hC M5 D5 HM3 HD3 Hstart
      simp only [List.drop_succ_cons, List.drop_zero]
      have HF7 := Lib.hid (show Few (packX B T es n true).2.2 (k + 1) from HF.out.drop.succ)
      go_wp2_with (first
        | (go_at_call 32; refine (spoil_w _ _ _ _ HD5.out.i (by omega) (fun e he => Nat.le_trans (Hl5.out e he) (by decide))).mono ?_; rintro r6 w6x ⟨⟨x6, rfl⟩, hto⟩; have HM6 := Lib.hid (HM5.out.stepX HD5.out hto); clear hto HD5)
        | (go_at_call 41; refine (sameall_w _ _ _ _ _ _ _ _ _ _ HM6.out.t HM6.out.k (by have := (HF7.out).1; omega) (fun e he => Nat.le_trans (HF7.out.2 e he) (by decide))).mono ?_; rintro r7 w7x ⟨rfl, hB⟩; have HM7 := Lib.hid (HM6.out.keep hB); clear hB))
      refine ⟨?_, by simp [Wmu, intOf]; omega⟩
      unfold WI
      refine ⟨_, _, _, _, _, _, _, _, _, _, _, _, _, _, _, _, _, _, _, _, _, _, _, _, _, _, _, _, _, _, _, _, _, _, _, _, _, _, _, _, _, _, _, _, _, _, _, _, _, _, _, _, _, _, _, _, _, _, _, _, _, _, _, _, _, _, _, _, _, _, _, _, _, _, _, _, _, _, _, _, _, _, _, _, _, _, _, _, _, _, _, _, _, _, _, _, _, _, _, _, _, _, _, _, _, _, _, _, _, _, _, _, _, _, _, _, _, _, _, _, _, _, _, _, _, _, _, _, _, _, _, _, _, _, _, _, _, _, _, _, _, _, _, _, _, _, _, _, _, _, _, _, _, _, _, _, _, _, _, _, _, _, _, _, _, _, _, _, _, _, _, _, _, _, _, _, _, _, _, _, _, _, _, _, _, _, _, _, _, _, _, _, _, ?_, rfl⟩
      exact ⟨k + 1, g, _, _, _, by omega, rfl, by go_num, HM7.out.two, HF7.out⟩
    · rfl
    · exact ⟨trivial, trivial, trivial, fun v x y h e => ⟨e.1, h.2.1 e.2⟩, trivial, trivial, trivial, fun v x y h e => ⟨e.1, h.2.2 e.2⟩, trivial⟩
  | false =>
    have Hmay := Lib.hid hmay
    clear hmay
    have Hg2 := Lib.hid (fun (W : World) (hR : RegT.Grow w3x.drew W) => (HM3.out.keep ((Below.refl w3x.heap.size w3x).drew.trans hR)).oat 2)
    apply RegT.wp_region_T rfl 241 8 rfl (by kernel_rfl) RegT.Grow RegT.Grow.refl RegT.Grow.trans
    · apply RegT.T_pure rfl rfl rfl
      · intro W hR; go_simp; rfl
      simp only [List.set_cons_succ, List.set_cons_zero, Nat.reduceAdd]
      apply RegT.T_pure (v := .pointer (some ⟨wr.heap.size, 2, none⟩)) rfl rfl rfl
      · intro W hR; clear hR; go_simp
      simp only [List.set_cons_succ, List.set_cons_zero, Nat.reduceAdd]
      apply RegT.T_pure (v := .int .u64 (n : Int)) rfl rfl rfl
      · intro W hR
        have hc := Hg2.out W hR
        simp only [List.getElem?_toArray, List.getElem?_cons_zero, List.getElem?_cons_succ] at hc
        clear hR
        go_simp
      simp only [List.set_cons_succ, List.set_cons_zero, Nat.reduceAdd]
      apply RegT.T_const rfl rfl rfl (.int .i64 2) (fun _ _ h => h)
      · intro W hR hf
        have Hc := Lib.hid (pack_no_w _ _ _ _ n _ es W (HM3.out.keep ((Below.refl w3x.heap.size w3x).drew.trans hR)).t Hmay.out)
        clear hR hf
        go_simp
        exact RegT.OpOK_enter Hc.out (fun e w' h => ⟨_, h.1, rfl, h.2⟩)
      simp only [List.set_cons_succ, List.set_cons_zero, Nat.reduceAdd]
      apply RegT.T_pure rfl rfl rfl
      · intro W hR; go_simp; rfl
      simp only [List.set_cons_succ, List.set_cons_zero, Nat.reduceAdd]
      apply RegT.T_pure (v := .pointer (some ⟨wr.heap.size, 2, none⟩)) rfl rfl rfl
      · intro W hR; clear hR; go_simp
      simp only [List.set_cons_succ, List.set_cons_zero, Nat.reduceAdd]
      apply RegT.T_pure (v := .int .u64 (n : Int)) rfl rfl rfl
      · intro W hR
        have hc := Hg2.out W hR
        simp only [List.getElem?_toArray, List.getElem?_cons_zero, List.getElem?_cons_succ] at hc
        clear hR
        go_simp
      simp only [List.set_cons_succ, List.set_cons_zero, Nat.reduceAdd]
      apply RegT.T_const rfl rfl rfl (.int .i64 2) (fun _ _ h => h)
      · intro W hR hf
        have Hc := Lib.hid (rpack_no_w _ _ _ _ n _ es W (HM3.out.keep ((Below.refl w3x.heap.size w3x).drew.trans hR)).k Hmay.out)
        clear hR hf
        go_simp
        exact RegT.OpOK_enter Hc.out (fun e w' h => ⟨_, h.1, rfl, h.2⟩)
      simp only [List.set_cons_succ, List.set_cons_zero, Nat.reduceAdd]
      refine RegT.T_tail (fun W5 hR hf => ?_)
      have HM5 := Lib.hid (HM3.out.keep ((Below.refl w3x.heap.size w3x).drew.trans hR))
      have HD5 := Lib.hid (HD3.out.keep ((Below.refl w3x.heap.size w3x).drew.trans hR))
      clear hR hf HM3 HD3 Hg2
      simp only [List.drop_succ_cons, List.drop_zero]
      have HF7 := Lib.hid HF.out.succ
      go_wp2_with (first
        | (go_at_call 32; refine (spoil_w _ _ _ _ HD5.out.i (by omega) (fun e he => Nat.le_trans (Hl5.out e he) (by decide))).mono ?_; rintro r6 w6x ⟨⟨x6, rfl⟩, hto⟩; have HM6 := Lib.hid (HM5.out.stepX HD5.out hto); clear hto HD5)
        | (go_at_call 41; refine (sameall_w _ _ _ _ _ _ _ _ _ _ HM6.out.t HM6.out.k (by omega) (fun e he => Nat.le_trans (HF7.out.2 e he) (by decide))).mono ?_; rintro r7 w7x ⟨rfl, hB⟩; have HM7 := Lib.hid (HM6.out.keep hB); clear hB))
      refine ⟨?_, by simp [Wmu, intOf]; omega⟩
      unfold WI
      refine ⟨_, _, _, _, _, _, _, _, _, _, _, _, _, _, _, _, _, _, _, _, _, _, _, _, _, _, _, _, _, _, _, _, _, _, _, _, _, _, _, _, _, _, _, _, _, _, _, _, _, _, _, _, _, _, _, _, _, _, _, _, _, _, _, _, _, _, _, _, _, _, _, _, _, _, _, _, _, _, _, _, _, _, _, _, _, _, _, _, _, _, _, _, _, _, _, _, _, _, _, _, _, _, _, _, _, _, _, _, _, _, _, _, _, _, _, _, _, _, _, _, _, _, _, _, _, _, _, _, _, _, _, _, _, _, _, _, _, _, _, _, _, _, _, _, _, _, _, _, _, _, _, _, _, _, _, _, _, _, _, _, _, _, _, _, _, _, _, _, _, _, _, _, _, _, _, _, _, _, _, _, _, _, _, _, _, _, _, _, _, _, _, _, _, ?_, rfl⟩
      exact ⟨k + 1, g, B, T, es, by omega, rfl, by go_num, HM7.out.two, HF7.out⟩
    · rfl
    · kernel_rfl
end Go.Proofs.Yteellfgiejnigaa
