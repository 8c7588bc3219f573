/- The law of TrackPlays. -/
import Derived.Test.YteellfgiejnigaaT32
namespace Go.Proofs.Yteellfgiejnigaa
open Go.ChangeShapes Go.WideShapes Go.ChangeAt Go.RowKit
set_option linter.unusedVariables false

theorem ops1 {w : World} {v1 : Value} {es : List Ent} {S1 : Foot} (h1 : EsR w S1 v1 es) : OpsL (w.alloc (Obj.cells #[.int .i64 0, .int .i64 0, .int .u64 0, .int .u64 0, v1] 39)) (.slice (some ⟨w.heap.size, 0, none⟩) 1 1) [es] := by
  refine ⟨_, 1, rfl, fun _ => ⟨w.heap.size, 0, rfl, fun i hi => ?_⟩⟩
  match i, hi with
  | 0, _ => exact ⟨v1, S1, by rw [cell_of_row _ _ _ _ _ _ (heap_alloc_new w _)]; rfl, h1.keeps ((Keeps.refl w).alloc _)⟩
theorem tame1_w (v1 : Value) (es : List Ent) (w : World) (S1 : Foot) (h1 : EsR w S1 v1 es) (k1 : ∀ e ∈ es, e.2.length ≤ 140737488351232) :
    Calls Try.prog 21 #[.slice (some ⟨w.heap.size, 0, none⟩) 1 1] (w.alloc (Obj.cells #[.int .i64 0, .int .i64 0, .int .u64 0, .int .u64 0, v1] 39)) fun r w' => r = .returned (.bool (tameR [es])) ∧ Below (w.alloc (Obj.cells #[.int .i64 0, .int .i64 0, .int .u64 0, .int .u64 0, v1] 39)).heap.size (w.alloc (Obj.cells #[.int .i64 0, .int .i64 0, .int .u64 0, .int .u64 0, v1] 39)) w' :=
  tame_w _ _ _ (ops1 h1) fun x hx e he => by
    simp only [List.mem_cons, List.not_mem_nil, or_false] at hx
    subst hx
    exact Nat.le_trans (k1 e he) (by decide)
theorem tame1_b (w : World) (v1 : Value) : Below w.heap.size w (w.alloc (Obj.cells #[.int .i64 0, .int .i64 0, .int .u64 0, .int .u64 0, v1] 39)) := (Below.refl w.heap.size w).alloc (Nat.le_refl _) _
theorem rangeAt_same {w w' : World} {b o : Nat} {cs : List Value} (h : w.rangeAt b o cs) (hs : w'.heap[b]? = w.heap[b]?) : w'.rangeAt b o cs := fun j x hx => (World.cell?_of_block (w := w) (a := ⟨b, o + j, none⟩) hs).trans (h j x hx)
theorem RkAt.new (w : World) (B T : Nat) (hB : B < 2 ^ 64) (hT : T < 2 ^ 64) : RkAt (w.alloc (.cells #[.int .u64 (B : Int), .int .u64 (T : Int), .slice none 0 0] 59)) (fun b => b = w.heap.size) w.heap.size B T (.slice none 0 0) [] :=
  ⟨heap_alloc_new w _, rfl, .inl ⟨rfl, rfl⟩, hB, hT, by simpa using hB⟩
theorem Two.start {w w3 w4 w5 w6 w7 : World} {s2 B T : Nat} {v u : Value} {es : List Ent} (hs2 : w.heap.size ≤ s2) (h3 : s2 ≤ w3.heap.size) (hb3 : Below w.heap.size w w3) (h4 : Below w3.heap.size w3 w4) (h5 : w5 = w4.alloc (.cells #[.int .u64 (B : Int), .int .u64 (T : Int), .slice none 0 0] 59))
    (ht : TkAt w4 (fun b => w3.heap.size ≤ b) w3.heap.size B T v es) (hk : RkAt w6 (fun b => b = w4.heap.size ∨ w5.heap.size ≤ b) w4.heap.size B T u es) (t6 : Touch (fun b => b = w4.heap.size) w5 w6) (t7 : Touch (fun b => s2 ≤ b ∧ b < w3.heap.size) w6 w7) : Two w w7 w3.heap.size w4.heap.size B T es := by
  have e5 : w5.heap.size = w4.heap.size + 1 := by rw [h5]; exact heap_alloc_size _ _
  have b45 : Below w4.heap.size w4 w5 := by rw [h5]; exact (Below.refl _ _).alloc (Nat.le_refl _) _
  have s34 := h4.size
  have s56 := t6.size
  have s67 := t7.size
  have b46 : Below w4.heap.size w4 w6 := b45.trans (t6.below b45.size fun b e => by have h : b = w4.heap.size := e; omega)
  have b06 : Below w.heap.size w w6 := (hb3.trans (h4.mono (by omega))).trans (b46.mono (by have := h4.size; omega))
  refine ⟨⟨fun b => w3.heap.size ≤ b ∧ b < w4.heap.size, fun b => (b = w4.heap.size ∨ w5.heap.size ≤ b) ∧ b < w6.heap.size, v, u, ?_, ?_, fun b h => ⟨by have := h.1; omega, by have := h.2; omega⟩, fun b h => ⟨by have := h.1; omega, by have := h.2; omega⟩, fun b h k => by have := h.2; have := k.1; omega⟩, ?_⟩
  · have h1 := (ht.mono (S' := fun b => w3.heap.size ≤ b ∧ b < w4.heap.size) fun b hb h => ⟨h, hb⟩).keeps b46.block
    exact h1.frame fun b hb => t7.block b (by have := hb.2; omega) (fun e => by have := e.2; have := hb.1; omega)
  · have h1 := hk.mono (S' := fun b => (b = w4.heap.size ∨ w5.heap.size ≤ b) ∧ b < w6.heap.size) fun b hb h => ⟨h, hb⟩
    exact h1.frame fun b hb => t7.block b hb.2 (fun e => by have := e.2; have := hb.1; omega)
  · exact b06.trans (t7.below b06.size fun b e => by have := e.1; omega)
theorem tame_es {ls : List Opd} (ht : tameR (ls.map (·.2.2.2.2)) = true) : ls.length ≤ 100 ∧ ∀ o ∈ ls, o.2.2.2.2.length ≤ 30 ∧ ∀ e ∈ o.2.2.2.2, e.2.length ≤ 50000 := by
  unfold tameR at ht
  simp only [decide_eq_true_eq, List.length_map] at ht
  refine ⟨ht.1, fun o ho => ?_⟩
  have hm := List.mem_map_of_mem (f := fun x : Opd => x.2.2.2.2) ho
  refine ⟨ht.2.1 _ hm, fun e he => ?_⟩
  have h1 := le_dsum _ e he
  have h2 := le_osum _ _ hm
  have h3 := ht.2.2
  omega
/-- How much there is at most behind k calls. -/
def Few (es : List Ent) (k : Nat) : Prop := es.length ≤ 30 * (k + 1) ∧ ∀ e ∈ es, e.2.length ≤ 50000
theorem Few.add {es L : List Ent} {k n : Nat} (h : Few es k) (hL : L.length ≤ 30) (hd : ∀ e ∈ L, e.2.length ≤ 50000) : Few (es ++ L.take n) (k + 1) := by
  refine ⟨?_, fun e he => ?_⟩
  · have := h.1; rw [List.length_append, List.length_take]; omega
  · rcases List.mem_append.1 he with he | he
    · exact h.2 e he
    · exact hd e (List.mem_of_mem_take he)
theorem Few.take {es : List Ent} {k n : Nat} (h : Few es k) : Few (es.take n) k := ⟨by have := h.1; rw [List.length_take]; omega, fun e he => h.2 e (List.mem_of_mem_take he)⟩
theorem Few.drop {es : List Ent} {k n : Nat} (h : Few es k) : Few (es.drop n) k := ⟨by have := h.1; rw [List.length_drop]; omega, fun e he => h.2 e (List.mem_of_mem_drop he)⟩
theorem Few.succ {es : List Ent} {k : Nat} (h : Few es k) : Few es (k + 1) := ⟨by have := h.1; omega, h.2⟩
theorem Few.n6 {es : List Ent} {k : Nat} (h : Few es k) (hk : k ≤ 100) : es.length ≤ 3030 := by have := h.1; omega
section
variable (w0 : World) (N : Nat) (oc : Array Value) (g r : Nat) (XX : Bool → Nat × Nat × List Ent) (X : Foot) (iv : Value) (ins : List Ent)
def J1 (y : Value) (W : World) : Prop := y = .int .i64 0 ∧ ∃ c, Jn w0 N oc g r XX X iv ins true c W
def J2 (y : Value) (W : World) : Prop := y = .int .i64 0 ∧ ∃ a, Jn w0 N oc g r XX X iv ins a true W
end
theorem sliceR_few {B : Nat} {es : List Ent} {n : Nat} {most : Int} (h : ∀ e ∈ es, e.2.length ≤ 50000) (hn : es.length ≤ 3030) : (sliceR B es n most).length ≤ 3030 ∧ ∀ e ∈ sliceR B es n most, e.2.length ≤ 50000 := by
  unfold sliceR
  split
  · exact ⟨Nat.zero_le _, fun e he => by cases he⟩
  · refine ⟨by rw [List.length_take, List.length_drop]; omega, fun e he => h e (List.mem_of_mem_drop (List.mem_of_mem_take he))⟩
theorem Mid.swap {w0 W W' : World} {N : Nat} {oc : Array Value} {S S' R : Foot} {g gc r B T B1 T1 : Nat} {v vc : Value} {es es1 : List Ent} {B' T' : Nat} {u : Value} {es' : List Ent}
    (M : Mid w0 N oc W S R g r B T v es B' T' u es') (hto : Touch S W W') (ht : TkAt W' S' gc B1 T1 vc es1) (h1 : ∀ b, S' b → w0.heap.size ≤ b ∧ b < W'.heap.size ∧ b ≠ N) (h2 : ∀ b, S' b → R b → False) : Mid w0 N oc W' S' R gc r B1 T1 vc es1 B' T' u es' :=
  ⟨ht, M.k.frame fun b hb => hto.block b (M.dR b hb).2.1 (fun e => M.dSR b e hb), by rw [hto.block N M.lt (fun e => (M.dS N e).2.2 rfl)]; exact M.o,
    M.below.trans (hto.below M.below.size fun b h => (M.dS b h).1), h1, fun b h => ⟨(M.dR b h).1, Nat.lt_of_lt_of_le (M.dR b h).2.1 hto.size, (M.dR b h).2.2⟩, h2, M.lo⟩
theorem Side.swap {w0 W W' : World} {N : Nat} {S S' R X : Foot} {iv : Value} {ins : List Ent} (D : Side w0 N W S R X iv ins) (hto : Touch S W W') (h : ∀ b, X b → S' b → False) : Side w0 N W' S' R X iv ins :=
  ⟨D.i.frame fun b hb => hto.block b (D.dX b hb).2.1 (fun e => D.dS b hb e), fun b h => ⟨(D.dX b h).1, Nat.lt_of_lt_of_le (D.dX b h).2.1 hto.size, (D.dX b h).2.2⟩, h, D.dR⟩

def firstLoop : Code → Option Code
  | .loop c => some c
  | .seq a b => match firstLoop a with
    | some c => some c
    | none => firstLoop b
  | .block _ c => firstLoop c
  | .scope c => firstLoop c
  | .cond _ a b => match firstLoop a with
    | some c => some c
    | none => firstLoop b
  | _ => none
/-- The loop's body. -/
noncomputable def playsBody : Code := (Try.f6.body.bind firstLoop).getD .skip
/-- Where a round begins. -/
def PRel (w : World) (nl r : Nat) (tp i : Value) (wr : World) : Prop := ∃ (k g B T : Nat) (es : List Ent), k ≤ nl ∧ tp = .pointer (some ⟨g, 0, none⟩) ∧ i = .int .i64 (k : Int) ∧ Two w wr g r B T es ∧ Few es k
/-- Where the last one ends. -/
def PEnd (w : World) (nl r : Nat) (tp : Value) (wr : World) : Prop := ∃ (g B T : Nat) (es : List Ent), tp = .pointer (some ⟨g, 0, none⟩) ∧ Two w wr g r B T es ∧ Few es nl
set_option maxRecDepth 1000000 in
def WI (w : World) (nl r B0 : Nat) (pl : Option Addr) (cl : Nat) (c1 c2 c4 c5 c6 c7 c8 c9 c29 c30 c31 c32 c33 c34 c35 c36 c37 c38 c39 c40 c41 c42 c43 c44 c45 c46 c47 c48 c49 c50 c51 c52 c53 c54 c55 c56 c57 c58 c59 c235 c236 c237 c238 c239 c240 : Value) (a : Act) (w' : World) : Prop := ∃ u10 u12 u13 u14 u15 u16 u17 u18 u19 u20 u21 u22 u23 u24 u25 u26 u27 u28 u60 u61 u62 u63 u64 u65 u66 u67 u68 u69 u70 u71 u72 u73 u74 u75 u76 u77 u78 u79 u80 u81 u82 u83 u84 u85 u86 u87 u88 u89 u90 u91 u92 u93 u94 u95 u96 u97 u98 u99 u100 u101 u102 u103 u104 u105 u106 u107 u108 u109 u110 u111 u112 u113 u114 u115 u116 u117 u118 u119 u120 u121 u122 u123 u124 u125 u126 u127 u128 u129 u130 u131 u132 u133 u134 u135 u136 u137 u138 u139 u140 u141 u142 u143 u144 u145 u146 u147 u148 u149 u150 u151 u152 u153 u154 u155 u156 u157 u158 u159 u160 u161 u162 u163 u164 u165 u166 u167 u168 u169 u170 u171 u172 u173 u174 u175 u176 u177 u178 u179 u180 u181 u182 u183 u184 u185 u186 u187 u188 u189 u190 u191 u192 u193 u194 u195 u196 u197 u198 u199 u200 u201 u202 u203 u204 u205 u206 u207 u208 u209 u210 u211 u212 u213 u214 u215 u216 u217 u218 u219 u220 u221 u222 u223 u224 u225 u226 u227 u228 u229 u230 u231 u232 u233 u234 : Value, PRel w nl r u10 u12 w' ∧ a = ⟨#[.int .u64 (B0 : Int), c1, c2, .slice pl nl cl, c4, c5, c6, c7, c8, c9, u10, .pointer (some ⟨r, 0, none⟩), u12, u13, u14, u15, u16, u17, u18, u19, u20, u21, u22, u23, u24, u25, u26, u27, u28, c29, c30, c31, c32, c33, c34, c35, c36, c37, c38, c39, c40, c41, c42, c43, c44, c45, c46, c47, c48, c49, c50, c51, c52, c53, c54, c55, c56, c57, c58, c59, u60, u61, u62, u63, u64, u65, u66, u67, u68, u69, u70, u71, u72, u73, u74, u75, u76, u77, u78, u79, u80, u81, u82, u83, u84, u85, u86, u87, u88, u89, u90, u91, u92, u93, u94, u95, u96, u97, u98, u99, u100, u101, u102, u103, u104, u105, u106, u107, u108, u109, u110, u111, u112, u113, u114, u115, u116, u117, u118, u119, u120, u121, u122, u123, u124, u125, u126, u127, u128, u129, u130, u131, u132, u133, u134, u135, u136, u137, u138, u139, u140, u141, u142, u143, u144, u145, u146, u147, u148, u149, u150, u151, u152, u153, u154, u155, u156, u157, u158, u159, u160, u161, u162, u163, u164, u165, u166, u167, u168, u169, u170, u171, u172, u173, u174, u175, u176, u177, u178, u179, u180, u181, u182, u183, u184, u185, u186, u187, u188, u189, u190, u191, u192, u193, u194, u195, u196, u197, u198, u199, u200, u201, u202, u203, u204, u205, u206, u207, u208, u209, u210, u211, u212, u213, u214, u215, u216, u217, u218, u219, u220, u221, u222, u223, u224, u225, u226, u227, u228, u229, u230, u231, u232, u233, u234, c235, c236, c237, c238, c239, c240], []⟩
set_option maxRecDepth 1000000 in
def WX (w : World) (nl r B0 : Nat) (pl : Option Addr) (cl : Nat) (c1 c2 c4 c5 c6 c7 c8 c9 c29 c30 c31 c32 c33 c34 c35 c36 c37 c38 c39 c40 c41 c42 c43 c44 c45 c46 c47 c48 c49 c50 c51 c52 c53 c54 c55 c56 c57 c58 c59 c235 c236 c237 c238 c239 c240 : Value) (a : Act) (w' : World) : Prop := ∃ u10 u12 u13 u14 u15 u16 u17 u18 u19 u20 u21 u22 u23 u24 u25 u26 u27 u28 u60 u61 u62 u63 u64 u65 u66 u67 u68 u69 u70 u71 u72 u73 u74 u75 u76 u77 u78 u79 u80 u81 u82 u83 u84 u85 u86 u87 u88 u89 u90 u91 u92 u93 u94 u95 u96 u97 u98 u99 u100 u101 u102 u103 u104 u105 u106 u107 u108 u109 u110 u111 u112 u113 u114 u115 u116 u117 u118 u119 u120 u121 u122 u123 u124 u125 u126 u127 u128 u129 u130 u131 u132 u133 u134 u135 u136 u137 u138 u139 u140 u141 u142 u143 u144 u145 u146 u147 u148 u149 u150 u151 u152 u153 u154 u155 u156 u157 u158 u159 u160 u161 u162 u163 u164 u165 u166 u167 u168 u169 u170 u171 u172 u173 u174 u175 u176 u177 u178 u179 u180 u181 u182 u183 u184 u185 u186 u187 u188 u189 u190 u191 u192 u193 u194 u195 u196 u197 u198 u199 u200 u201 u202 u203 u204 u205 u206 u207 u208 u209 u210 u211 u212 u213 u214 u215 u216 u217 u218 u219 u220 u221 u222 u223 u224 u225 u226 u227 u228 u229 u230 u231 u232 u233 u234 : Value, PEnd w nl r u10 w' ∧ a = ⟨#[.int .u64 (B0 : Int), c1, c2, .slice pl nl cl, c4, c5, c6, c7, c8, c9, u10, .pointer (some ⟨r, 0, none⟩), u12, u13, u14, u15, u16, u17, u18, u19, u20, u21, u22, u23, u24, u25, u26, u27, u28, c29, c30, c31, c32, c33, c34, c35, c36, c37, c38, c39, c40, c41, c42, c43, c44, c45, c46, c47, c48, c49, c50, c51, c52, c53, c54, c55, c56, c57, c58, c59, u60, u61, u62, u63, u64, u65, u66, u67, u68, u69, u70, u71, u72, u73, u74, u75, u76, u77, u78, u79, u80, u81, u82, u83, u84, u85, u86, u87, u88, u89, u90, u91, u92, u93, u94, u95, u96, u97, u98, u99, u100, u101, u102, u103, u104, u105, u106, u107, u108, u109, u110, u111, u112, u113, u114, u115, u116, u117, u118, u119, u120, u121, u122, u123, u124, u125, u126, u127, u128, u129, u130, u131, u132, u133, u134, u135, u136, u137, u138, u139, u140, u141, u142, u143, u144, u145, u146, u147, u148, u149, u150, u151, u152, u153, u154, u155, u156, u157, u158, u159, u160, u161, u162, u163, u164, u165, u166, u167, u168, u169, u170, u171, u172, u173, u174, u175, u176, u177, u178, u179, u180, u181, u182, u183, u184, u185, u186, u187, u188, u189, u190, u191, u192, u193, u194, u195, u196, u197, u198, u199, u200, u201, u202, u203, u204, u205, u206, u207, u208, u209, u210, u211, u212, u213, u214, u215, u216, u217, u218, u219, u220, u221, u222, u223, u224, u225, u226, u227, u228, u229, u230, u231, u232, u233, u234, c235, c236, c237, c238, c239, c240], []⟩
def Wmu (nl : Nat) (a : Act) (w' : World) : Nat := nl - (intOf (a.tmps.getD 12 undef)).toNat
end Go.Proofs.Yteellfgiejnigaa
