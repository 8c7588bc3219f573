/- L3: T8, T10, T13, T14, T15, T16, T17, T18, T19, T20. -/
import Derived.Test.YteellfgiejnigaaT7
import Derived.Test.YteellfgiejnigaaL2
import Derived.Test.YteellfgiejnigaaL1
import Derived.OpenShut
import Derived.Lib.SmallJoins
/- Walks of 'of', and what is known of the small track. -/
namespace Go.Proofs.Yteellfgiejnigaa
open Go.ChangeShapes Go.WideShapes Go.ChangeAt Go.RowKit
set_option linter.unusedVariables false

section
variable {ops : Array Oper} {rest : List Oper} {o : Oper} {a : Act} {w : World} {Q : Exit → Act → World → Prop}
theorem wpList_append_esg (hgd : o.guard = none) (s x : Operand) (ho : o.op = .call { callee := .builtin .append, args := #[s, x], argTypes := #[28, 28] }) {S S' : Foot}
    {v : Value} {es : List Ent} (hs : a.eval s = v) (hown : EsG w S 53 v es) {p : Option Addr} {c : Nat} {ys : List Value} {fs : List Ent} (hx : a.eval x = .slice p fs.length c) (hys : EsC w (fun b => S' b ∧ v.ownBlock ≠ some b) ys fs)
    (hsrc : (p = none ∧ fs = [] ∧ c = 0) ∨ ∃ a, p = some a ∧ ∀ j u, ys[j]? = some u → w.cell? (a.add j) = some u)
    (hlen : es.length + fs.length ≤ 1000000) (hS : ∀ b, S b → S' b) (hnew : S' w.heap.size)
    (h : ∀ p n c w', EsG w' S' 53 (.slice p n c) (es ++ fs) → w.grownBy w' v.ownBlock → wpList Try.prog ops Q rest (a.put o.dst (.slice p n c)) w') : wpList Try.prog ops Q (o :: rest) a w := by
  refine wpList_plain hgd fun _ hK => ?_
  obtain ⟨v', w', hr, h2, h3, _, _⟩ := run_append_esg (P := Try.prog) (ty := o.type) helE hown hys hsrc (by unfold maxLen; omega) (by omega) hS hnew
  obtain ⟨p2, c2, rfl⟩ := h2.form
  unfold Oper.wp execOp
  simp only [ho, resolve, invoke, builtin, Sem.run_bind, Sem.run_pure, Result.andThen_ok, List.map_toArray, List.map_cons, List.map_nil, hs, hx, hr]
  exact hK _ _ (h p2 _ c2 w' h2 h3)
end

/-- The value reads as these numbers. -/
def RdN (w : World) (v : Value) (ts : List Nat) : Prop := ∃ b, v = .slice (some ⟨b, 0, none⟩) ts.length ts.length ∧ b < w.heap.size ∧ ∀ i, i < ts.length → w.cell? ⟨b, i, none⟩ = some (.int .u64 ((ts.getD i 0 : Nat) : Int)) ∧ ts.getD i 0 < 2 ^ 64
def bare (ts : List Nat) : List Ent := ts.map fun t => (t, [])

set_option maxRecDepth 100000 in
theorem of_w (ts : List Nat) (sv : Value) (w : World) (h : RdN w sv ts) (hn : ts.length ≤ 1000) :
    Calls Try.prog 40 #[sv] w fun r w' => ∃ v, r = .returned v ∧ EsG w' (fun b => w.heap.size ≤ b) 53 v (bare ts) ∧ Below w.heap.size w w' := by
  obtain ⟨b, rfl, hb, hc⟩ := h
  have Hc := Lib.hid hc
  clear hc
  go_enter Try.func40, Try.ntmps40
  go_wp2
  go_loopw [3, 4] (fun v i wr => ∃ (k : Nat) (p : Option Addr) (n c : Nat), k ≤ ts.length ∧ i = .int .i64 (k : Int) ∧ v = .slice p n c ∧ Hid (EsG wr (fun b => w.heap.size ≤ b) 53 (.slice p n c) (bare (ts.take k))) ∧ Hid (Below w.heap.size w wr)) (fun _ i _ => ts.length - (intOf i).toNat)
  case atStart => exact ⟨0, none, 0, 0, Nat.zero_le _, rfl, rfl, Lib.hid (.inl ⟨rfl, rfl⟩), Lib.hid (Below.refl _ _)⟩
  case round =>
    obtain ⟨k, p, n, c, hk, rfl, rfl, HE, HB⟩ := hrel
    by_cases hlt : k < ts.length
    · obtain ⟨hck, htl⟩ := Hc.out k hlt
      have hck2 := HB.out.cell (p := ⟨b, k, none⟩) hb
      rw [hck] at hck2
      have Htl := Lib.hid htl
      have Hes := Lib.hid (show bare (ts.take (k + 1)) = bare (ts.take k) ++ [(ts.getD k 0, [])] by
        unfold bare; rw [List.take_succ_eq_append_getElem hlt, List.map_append]; simp [List.getD, List.getElem?_eq_getElem hlt])
      have hlen : (bare (ts.take k)).length ≤ 1000 := by unfold bare; rw [List.length_map, List.length_take]; omega
      have HN := Lib.hid (EntAt.new wr (ts.getD k 0) (.slice none 0 0))
      generalize ts.getD k 0 = t at *
      have HEa := Lib.hid (HE.out.keeps ((Keeps.refl wr).alloc (.cells #[.int .u64 (t : Int), .slice none 0 0] 53)))
      clear hck htl
      go_wp2_with (refine wpList_append_esg rfl (.tmp 11) (.tmp 17) rfl (S' := fun b => w.heap.size ≤ b) rfl HEa.out rfl (fs := [(t, [])]) (EsC.cons Htl.out ⟨(OB.nil _ 0 5).rd, (fun g e _ => by cases e), (fun g e _ => by cases e), (fun b off c e => by cases e)⟩ .nil) (.inr ⟨_, rfl, ent_cells HN.out⟩) (by simp; omega) (fun b hb => hb) (by have := HB.out.size; simp; omega) ?_; intro p2 n2 c2 w2 ho hg; have HE2 := Lib.hid ho; have HB2 := Lib.hid ((HB.out.alloc HB.out.size (.cells #[.int .u64 (t : Int), .slice none 0 0] 53)).grown hg (by have := HB.out.size; simp; omega) (fun g e => (HEa.out.foot g e).1)); clear ho hg)
      go_roundw
      case rel => exact ⟨k + 1, p2, n2, c2, by omega, by go_num, rfl, by rw [Hes.out]; exact HE2, HB2⟩
      case measure => simp [intOf]; omega
    · have hk2 : k = ts.length := by omega
      go_wp2
      go_ret
      have h1 := HE.out
      rw [hk2, List.take_length] at h1
      exact ⟨_, rfl, h1, HB.out⟩

theorem rdN_new (w : World) (cs : Array Value) (ts : List Nat) (h : ∀ i, i < ts.length → cs[i]? = some (.int .u64 ((ts.getD i 0 : Nat) : Int)) ∧ ts.getD i 0 < 2 ^ 64) : RdN (w.alloc (.cells cs 22)) (.slice (some ⟨w.heap.size, 0, none⟩) ts.length ts.length) ts :=
  ⟨w.heap.size, rfl, by simp, fun i hi => ⟨by rw [cell_of_row _ _ _ _ _ _ (heap_alloc_new w _)]; exact (h i hi).1, (h i hi).2⟩⟩
theorem bare_le (ts : List Nat) : ∀ e ∈ bare ts, e.2.length ≤ 1000000 := fun e he => by
  unfold bare at he
  obtain ⟨t, _, rfl⟩ := List.mem_map.1 he
  exact Nat.zero_le _
set_option maxRecDepth 100000 in
theorem new21_w (R : Foot) (v : Value) (w : World) (h : EsR w R v (bare [1, 2, 2])) :
    Calls Try.prog 22 #[.int .u64 2, .int .u64 1, v] w fun r w' => r = .returned (.pointer (some ⟨w.heap.size, 0, none⟩)) ∧ (∃ v, TkAt w' (fun b => w.heap.size ≤ b) w.heap.size 2 1 v (bare [1, 2, 2])) ∧ Below w.heap.size w w' :=
  new_w R 2 1 v (bare [1, 2, 2]) w (by decide) (by decide) h (by decide) (bare_le _)
theorem meet31_w (S R : Foot) (g : Nat) (v sv : Value) (w : World) (h : TkAt w S g 2 1 v (bare [1, 2, 2])) (hr : EsR w R sv (bare [2, 3])) :
    Calls Try.prog 24 #[.pointer (some ⟨g, 0, none⟩), .int .u64 3, .int .u64 1, sv] w fun r w' =>
      ∃ av, r = .returned (.tuple #[.int .u64 4, av, .int .i64 0]) ∧ EsR w' (fun b => w.heap.size ≤ b) av [(3, [])] ∧ Below w.heap.size w w' := by
  have hm : meetR 2 1 (bare [1, 2, 2]) 3 1 (bare [2, 3]) = (4, [(3, [])], 0) := by decide +kernel
  have h1 := meet_w S R g 2 1 3 1 v sv (bare [1, 2, 2]) (bare [2, 3]) w h hr (by decide) (by decide) (by decide) (bare_le _)
  rw [hm] at h1
  generalize bare [1, 2, 2] = x at *
  generalize bare [2, 3] = y at *
  exact h1
theorem tip52_w (S : Foot) (g : Nat) (v : Value) (w : World) (h : TkAt w S g 2 1 v (bare [1, 2, 2])) :
    Calls Try.prog 23 #[.pointer (some ⟨g, 0, none⟩)] w fun r w' => r = .returned (.tuple #[.int .u64 5, .int .u64 2]) ∧ Below w.heap.size w w' :=
  tip_w S g 2 1 v (bare [1, 2, 2]) w h (by decide)

set_option maxRecDepth 100000 in
set_option maxHeartbeats 1600000 in
theorem known24_w (w : World) : Calls Try.prog 15 #[] w fun r w' => r = .returned (.bool true) ∧ Below w.heap.size w w' := by
  have HN1 := Lib.hid (show RdN (w.alloc (.cells #[.int .u64 1, .int .u64 2, .int .u64 2] 22)) (.slice (some ⟨w.heap.size, 0, none⟩) 3 3) [1, 2, 2] from
    rdN_new w #[.int .u64 1, .int .u64 2, .int .u64 2] [1, 2, 2] (fun i hi => by match i, hi with
      | 0, _ => exact ⟨rfl, by decide⟩
      | 1, _ => exact ⟨rfl, by decide⟩
      | 2, _ => exact ⟨rfl, by decide⟩))
  have HB0 := Lib.hid ((Below.refl w.heap.size w).alloc (Nat.le_refl _) (.cells #[.int .u64 1, .int .u64 2, .int .u64 2] 22))
  have HN2 := Lib.hid (fun W : World => (show RdN (W.alloc (.cells #[.int .u64 2, .int .u64 3] 22)) (.slice (some ⟨W.heap.size, 0, none⟩) 2 2) [2, 3] from
    rdN_new W #[.int .u64 2, .int .u64 3] [2, 3] (fun i hi => by match i, hi with
      | 0, _ => exact ⟨rfl, by decide⟩
      | 1, _ => exact ⟨rfl, by decide⟩)))
  go_enter Try.func15, Try.ntmps15
  go_wp2_with (first
    | (go_at_call 40; first
        | (refine (of_w [1, 2, 2] _ _ HN1.out (by decide)).mono ?_; rintro r w1 ⟨v1, rfl, h1, hB⟩; have HE1 := Lib.hid h1; have HB1 := Lib.hid (HB0.out.trans (hB.mono HB0.out.size)); clear h1 hB HN1)
        | (refine (of_w [2, 3] _ _ (HN2.out w2) (by decide)).mono ?_; rintro r w3 ⟨v3, rfl, h3, hB⟩; have HE3 := Lib.hid h3.rd; have HT3 := Lib.hid (HT2.out.keeps hB.block); have HB3 := Lib.hid (HB2.out.trans (hB.mono HB2.out.size)); clear h3 hB))
    | (go_at_call 22; refine (new21_w _ v1 _ HE1.out.rd).mono ?_; rintro r w2 ⟨rfl, ⟨tv, ht⟩, hB⟩; have HT2 := Lib.hid (ht.keeps ((Keeps.refl w2).alloc (.cells #[.int .u64 2, .int .u64 3] 22))); have HB2 := Lib.hid ((HB1.out.trans (hB.mono HB1.out.size)).alloc (by have := HB1.out.size; have := hB.size; omega) (.cells #[.int .u64 2, .int .u64 3] 22)); clear ht hB)
    | (go_at_call 24; refine (meet31_w _ _ _ tv v3 _ HT3.out HE3.out).mono ?_; rintro r w4 ⟨av, rfl, h4, hB⟩; obtain ⟨b, off, c, rfl, hc⟩ := h4.term 0 (by decide); have Hc := Lib.hid hc; have hlt := block_lt_of_cell hc; have HT4 := Lib.hid (HT3.out.keeps hB.block); have HB4 := Lib.hid (HB3.out.trans (hB.mono HB3.out.size)); clear h4 hB hc)
    | (go_at_call 23; refine (tip52_w _ _ tv _ HT4.out).mono ?_; rintro r w5 ⟨rfl, hB⟩; have hcc : w5.cell? ⟨b, off, none⟩ = some (.int .u64 3) := (hB.cell (p := ⟨b, off, none⟩) hlt).trans Hc.out; have HB5 := Lib.hid (HB4.out.trans (hB.mono HB4.out.size)); clear hB))
  go_ret
  exact ⟨rfl, HB5.out⟩
end Go.Proofs.Yteellfgiejnigaa
/- A pair of numbers that came in, by value. -/
namespace Go.Proofs.Yteellfgiejnigaa
open Go.ChangeShapes Go.WideShapes Go.ChangeAt Go.RowKit Go.Deep
set_option linter.unusedVariables false

section
variable {H : Type} {enc : TypeId × Value → H} {w : World} {base : Nat} {spare : Nat → Bool} {held : Bool}
theorem wf_u64 {n : Int} (h : (Lit.int .u64 n).wf = true) : 0 ≤ n ∧ n < 18446744073709551616 := by
  have : 0 ≤ n ∧ n ≤ 18446744073709551615 := by simpa [Lit.wf, IntKind.min, IntKind.max, IntKind.signed, IntKind.bits] using h
  omega
theorem cell_of_take {cs : List Value} {off : Nat} {v : Value} (h : (cs.drop off).take 1 = [v]) : cs[off]? = some v := by
  have := congrArg (fun l => l[0]?) h
  simpa using this
set_option maxRecDepth 100000 in
theorem pair_of_trod {v : Value} {d : DataW H} {p : List MemPlace} {base' : Nat} (hk : Value.okWide Try.prog w .any base' 23 v) (h : DataW.Trod enc Try.prog w base (fun _ => true) held 23 v d p) :
    ∃ x : Nat × Nat, v = .agg #[.int .u64 (x.1 : Int), .int .u64 (x.2 : Int)] := by
  have hk' : ∃ cs, v = .agg cs ∧ cs.size = Try.prog.cellsOf 23 := by
    have hk2 := hk
    simp only [Value.okWide, Try.underlying23] at hk2
    obtain ⟨cs, h1, h2, _⟩ := hk2
    exact ⟨cs, h1, h2⟩
  obtain ⟨cs, rfl, hsz⟩ := hk'
  rw [show Try.prog.cellsOf 23 = 2 by kernel_rfl] at hsz
  obtain ⟨fuel, hf⟩ := h
  obtain ⟨xs, m, _, -, hlen, hxl, hx⟩ := DataW.trod_array Try.underlying23 hf
  obtain ⟨l⟩ := cs
  have hl : l.length = 2 := hsz
  have hcs : (Value.agg ⟨l⟩).cells.toList = l := rfl
  rw [hcs] at hx
  have c22 : Try.prog.cellsOf 22 = 1 := by kernel_rfl
  have get : ∀ i, i < 2 → ∃ n, l[i]? = some (.int .u64 n) ∧ (Lit.int .u64 n).wf = true := by
    intro i hi
    have h1 := (hx i hi).trans (List.getElem?_eq_getElem (show i < xs.length by omega))
    rw [c22, Nat.mul_one] at h1
    obtain ⟨n, h2, -, h3⟩ := DataW.trod_int Try.underlying22 h1
    exact ⟨n, cell_of_take h2, h3⟩
  obtain ⟨n0, q0, w0⟩ := get 0 (by decide)
  obtain ⟨n1, q1, w1⟩ := get 1 (by decide)
  obtain ⟨a, ha⟩ : ∃ a : Nat, n0 = (a : Int) := ⟨n0.toNat, by have := (wf_u64 w0).1; omega⟩
  obtain ⟨b, hb⟩ : ∃ b : Nat, n1 = (b : Int) := ⟨n1.toNat, by have := (wf_u64 w1).1; omega⟩
  subst ha hb
  refine ⟨(a, b), ?_⟩
  congr 1
  apply Array.ext'
  show l = [_, _]
  match l, hl, q0, q1 with
  | [x, y], _, q0, q1 => cases q0; cases q1; rfl
end
end Go.Proofs.Yteellfgiejnigaa
/- The walk of Slice. -/
namespace Go.Proofs.Yteellfgiejnigaa
open Go.ChangeShapes Go.WideShapes Go.ChangeAt Go.RowKit
set_option linter.unusedVariables false

theorem run_slice_lo_u (t e : TypeId) (ht : Try.prog.underlying t = some (.slice e)) (sz : Nat) (hsz : (Try.prog.info? e).map (·.size) = some sz) (p : Option Addr) (len cap : Nat) (l : Nat) (hl : l ≤ len) (w : World) :
    (Instr.sliceAt t (.slice p len cap) (some (.int .u64 (l : Int))) none none).run Try.prog w = .ok (.slice (if cap = l then p else p.map (·.add (l * sz))) (len - l) (cap - l)) w := by
  obtain ⟨i, hi, hsi⟩ := Option.map_eq_some_iff.1 hsz
  simp [Instr.sliceAt, Instr.slice, Instr.sliceBounds, Instr.sliceBound, asIntOf, Sem.run_bind, run_underlying ht, sizeOf, typeInfo, hi, hsi, hl]
/-- Some entries, from an index on. -/
def sliceR (B : Nat) (es : List Ent) (fr : Nat) (most : Int) : List Ent := if fr ≤ B ∨ B + es.length < fr ∨ most < 1 then [] else (es.drop (fr - B - 1)).take most.toNat

set_option maxRecDepth 100000 in
set_option maxHeartbeats 3200000 in
theorem slice_w (S : Foot) (g B T fr : Nat) (most : Int) (v : Value) (es : List Ent) (w : World) (h : TkAt w S g B T v es) (hn : es.length ≤ 1000000) (hl : ∀ e ∈ es, e.2.length ≤ 1000000) (hf : fr < 2 ^ 64) (hm : -9223372036854775808 ≤ most ∧ most ≤ 9223372036854775807) :
    Calls Try.prog 25 #[.pointer (some ⟨g, 0, none⟩), .int .u64 (fr : Int), .int .i64 most] w fun r w' => ∃ u, r = .returned u ∧ EsG w' (fun b => w.heap.size ≤ b) 53 u (sliceR B es fr most) ∧ Below w.heap.size w w' := by
  have H := Lib.hid (h.mono (S' := fun b => S b ∧ b < w.heap.size) fun b hb hs => ⟨hs, hb⟩)
  have Hlast := Lib.hid (last_w S g B T v es w h)
  have Hl := Lib.hid hl
  have c0 := h.c0
  have hfi := h.fits
  unfold sliceR
  by_cases h1 : fr ≤ B
  · rw [if_pos (.inl h1)]
    have e1 : decide (fr ≤ B) = true := by simp [h1]
    clear h Hlast
    go_enter Try.func25, Try.ntmps25
    go_wp2
    go_ret
    exact ⟨_, rfl, .inl ⟨rfl, rfl⟩, Below.refl _ _⟩
  · have e1 : decide (fr ≤ B) = false := by simp; omega
    by_cases h2 : B + es.length < fr
    · rw [if_pos (.inr (.inl h2))]
      have e2 : decide (B + es.length < fr) = true := by simp [h2]
      generalize B + es.length = L at *
      clear h
      go_enter Try.func25, Try.ntmps25
      go_wp2_with (go_at_call 76; refine (Hlast.out).mono ?_; rintro r w1 ⟨rfl, hB⟩; have HB := Lib.hid hB; clear hB)
      go_ret
      exact ⟨_, rfl, .inl ⟨rfl, rfl⟩, HB.out⟩
    · have e2 : decide (B + es.length < fr) = false := by simp; omega
      by_cases h3 : most < 1
      · rw [if_pos (.inr (.inr h3))]
        have e3 : decide (most < 1) = true := by simp [h3]
        generalize B + es.length = L at *
        clear h
        go_enter Try.func25, Try.ntmps25
        go_wp2_with (go_at_call 76; refine (Hlast.out).mono ?_; rintro r w1 ⟨rfl, hB⟩; have HB := Lib.hid hB; clear hB)
        go_ret
        exact ⟨_, rfl, .inl ⟨rfl, rfl⟩, HB.out⟩
      · rw [if_neg (by omega)]
        have e3 : decide (most < 1) = false := by simp; omega
        obtain ⟨k0, hk0⟩ : ∃ k0, k0 = fr - B - 1 := ⟨_, rfl⟩
        rw [← hk0]
        have hkn : k0 < es.length := by omega
        obtain ⟨b, off, n, c, d, hv, hnn, z1, z2, z3⟩ := h.own.rd.elem k0 hkn
        clear z1 z2 z3
        have hcap : es.length ≤ c := by obtain ⟨p, c', xs, e, q, _⟩ := h.own.rd; rw [hv] at e; cases e; exact q
        subst hv hnn
        obtain ⟨m, hmm⟩ : ∃ m, m = min most.toNat (es.length - k0) := ⟨_, rfl⟩
        obtain ⟨n1, hn1⟩ : ∃ n1, n1 = es.length - k0 := ⟨_, rfl⟩
        obtain ⟨c1, hc1⟩ : ∃ c1, c1 = c - k0 := ⟨_, rfl⟩
        have hs1 : ∀ x : World, (Instr.sliceAt 28 (.slice (some ⟨b, off, none⟩) es.length c) (some (.int .u64 (k0 : Int))) none none).run Try.prog x = .ok (.slice (some ⟨b, off + k0 * 2, none⟩) n1 c1) x := fun x => by
          rw [run_slice_lo_u 28 53 Try.underlying28 2 (by kernel_rfl) (some ⟨b, off, none⟩) es.length c k0 (by omega) x, if_neg (by omega), hn1, hc1]
          simp [Addr.add_mid]
        have hs2 : ∀ x : World, (Instr.sliceAt 28 (.slice (some ⟨b, off + k0 * 2, none⟩) n1 c1) none (some (.int .i64 (m : Int))) none).run Try.prog x = .ok (.slice (some ⟨b, off + k0 * 2, none⟩) m c1) x := fun x =>
          run_slice_hi (P := Try.prog) 28 53 Try.underlying28 2 (by kernel_rfl) (some ⟨b, off + k0 * 2, none⟩) n1 c1 m (by omega) x
        have e5 : IntKind.u64.wrap ((fr : Int) - (B : Int)) = (k0 : Int) + 1 := by rw [IntWalk.u64_in _ (by omega)]; omega
        have e6 : IntKind.u64.wrap ((k0 : Int) + 1 - 1) = (k0 : Int) := by rw [IntWalk.u64_in _ (by omega)]; omega
        have e7 : (k0 : Int) + 1 - 1 = (k0 : Int) := by omega
        have e8 : IntKind.u64.wrap (k0 : Int) = (k0 : Int) := IntWalk.u64_in _ (by omega)
        obtain ⟨q, hq⟩ : ∃ q : Nat, most = (q : Int) := ⟨most.toNat, by omega⟩
        have Hq := Lib.hid (show most.toNat = q by omega)
        have hmq : m = min q n1 := by rw [hmm, Hq.out, hn1]
        have Hmq := Lib.hid hmq
        have Hn1 := Lib.hid hn1
        have Hm1 := Lib.hid (show m ≤ n1 by omega)
        have hm6 : m ≤ 1000000 := by omega
        have hn6 : n1 ≤ 1000000 := by omega
        have Hk0 := Lib.hid hk0
        have Hfin := Lib.hid (show (es.drop k0).take most.toNat = (es.drop k0).take m by rw [List.take_eq_take_iff, List.length_drop]; omega)
        have Hkm := Lib.hid (show k0 + m ≤ es.length by omega)
        subst hq
        generalize B + es.length = L at *
        have hway : (q < n1 ∧ m = q) ∨ (q = n1 ∧ m = n1) ∨ (n1 < q ∧ m = n1) := by omega
        clear h h1 h2 h3 hk0 hkn hcap hmm hn1 hc1 hmq hl
        rcases hway with ⟨hlt, rfl⟩ | ⟨rfl, rfl⟩ | ⟨hlt, rfl⟩
        · go_enter Try.func25, Try.ntmps25
          go_wp2_with (go_at_call 76; refine (Hlast.out).mono ?_; rintro r w1 ⟨rfl, hB⟩; have HB := Lib.hid hB; have H1 := Lib.hid (H.out.keeps hB.block); have c0 := H1.out.c0; have c2 := H1.out.c2; clear hB)
          go_quiet (fail)
          go_wp2
          have HBq := Lib.hid (show Below w.heap.size w (w1.drewN nq) from HB.out.trans ⟨rfl, rfl, rfl, Nat.le_refl _, fun _ _ => rfl⟩)
          go_loopw [7, 50] (fun v i wr => ∃ (k : Nat) (p : Option Addr) (n c : Nat), k ≤ m ∧ i = .int .i64 (k : Int) ∧ v = .slice p n c ∧ Hid (EsG wr (fun b => w.heap.size ≤ b) 53 (.slice p n c) ((es.drop k0).take k)) ∧ Hid (Below w.heap.size w wr)) (fun _ i _ => m - (intOf i).toNat)
          case atStart => exact ⟨0, none, 0, 0, Nat.zero_le _, rfl, rfl, Lib.hid (.inl ⟨rfl, by simp⟩), HBq⟩
          case round =>
            obtain ⟨k, p, n, c3, hk, rfl, rfl, HE, HBr⟩ := hrel
            by_cases hlk : k < m
            · have hkj : k0 + k < es.length := by have := Hkm.out; omega
              have hT := H.out.frame (fun b hb => HBr.out.block b hb.2)
              obtain ⟨b2, off2, n2, c2, d, hsv, hnn, hrange, hda, htl⟩ := hT.own.rd.elem (k0 + k) hkj
              cases hsv
              have Hra := Lib.hid (show wr.rangeAt b (off + k0 * 2 + k * 2) [.int .u64 ((es[k0 + k].1 : Nat) : Int), d] by rw [show off + k0 * 2 + k * 2 = off + (k0 + k) * 2 by omega]; exact hrange)
              have Htl := Lib.hid htl
              have Hes := Lib.hid (show (es.drop k0).take (k + 1) = (es.drop k0).take k ++ [(es[k0 + k].1, es[k0 + k].2)] by
                rw [List.take_succ_eq_append_getElem (by rw [List.length_drop]; omega)]; simp)
              have hll := Hl.out es[k0 + k] (List.getElem_mem _)
              have HZ := Lib.hid (heap_alloc_new wr (.cells #[.int .u64 0, .slice none 0 0] 53))
              have hlen : ((es.drop k0).take k).length ≤ 1000000 - 1 := by rw [List.length_take, List.length_drop]; omega
              generalize es[k0 + k].1 = t at *
              generalize es[k0 + k].2 = le at *
              obtain ⟨pd, cd, rfl⟩ : ∃ p c, d = .slice p le.length c := by obtain ⟨p, c, h1, _⟩ := hda.rd; exact ⟨p, c, h1⟩
              obtain ⟨W2, HW2, hE, hB2⟩ := stored53 wr t (.slice pd le.length cd)
              have HE1 := Lib.hid hE
              have HD := Lib.hid (hda.rd.below hB2)
              have HB2 := Lib.hid hB2
              have HEg := Lib.hid (HE.out.keeps hB2.block)
              have HBw := Lib.hid (HBr.out.trans (hB2.mono HBr.out.size))
              clear hrange hda htl hE hB2 hT hnn hkj
              go_wp2_with (first
                | (refine wpList_load_mid rfl 53 (.tmp 52) rfl _ _ rfl [.int .u64 (t : Int), .slice pd le.length cd] _ Hra.out Try.underlying53 rfl (show _ = some 2 by kernel_rfl) ?_)
                | (refine wpList_alloc_zero rfl 53 rfl _ hz53 ?_)
                | (refine wpList_store_rowTo rfl 53 (.tmp 10) (.tmp 53) rfl rfl _ #[.int .u64 (t : Int), .slice pd le.length cd] rfl rfl 53 #[.int .u64 0, .slice none 0 0] HZ.out (show _ = some 2 by kernel_rfl) rfl (ent_one _ _ _ _) ?_; rw [HW2.out])
                | (refine wpList_load_row rfl 53 (.tmp 10) rfl _ rfl _ _ _ _ HE1.out Try.underlying53 rfl (show _ = some 2 by kernel_rfl) ?_)
                | (go_at_call 78; refine (copied_w t (.slice pd le.length cd) le _ HD.out (by omega)).mono ?_; rintro r w5 ⟨p5, c5, rfl, hd5, hB⟩; have HD5 := Lib.hid (hd5.keeps ((Keeps.refl w5).alloc (.cells #[.int .u64 (t : Int), .slice p5 le.length c5] 53))); have HN5 := Lib.hid (EntAt.new w5 t (.slice p5 le.length c5)); have HE5 := Lib.hid ((HEg.out.keeps hB.block).keeps ((Keeps.refl w5).alloc (.cells #[.int .u64 (t : Int), .slice p5 le.length c5] 53))); have hsz5 := hB.size; have HB5 := Lib.hid ((HBw.out.trans (hB.mono HBw.out.size)).alloc (Nat.le_trans HBw.out.size hB.size) (.cells #[.int .u64 (t : Int), .slice p5 le.length c5] 53)); clear hd5 hB)
                | (refine wpList_append_esg rfl (.tmp 54) (.tmp 57) rfl (S' := fun b => w.heap.size ≤ b) rfl HE5.out rfl (fs := [(t, le)]) (EsC.cons Htl.out (HD5.out.mono fun b _ hb => (⟨Nat.le_trans HBw.out.size hb, fun e => by have hb2 : W2.heap.size ≤ b := hb; have := (HEg.out.foot b e).2; omega⟩ : (w.heap.size ≤ b) ∧ (Value.slice p n c3).ownBlock ≠ some b)) .nil) (.inr ⟨_, rfl, ent_cells HN5.out⟩) (by simp; omega) (fun b hb => hb) (by have := HB5.out.size; exact this) ?_; intro p6 n6 c6 w6 ho hg; have HE6 := Lib.hid ho; have HB6 := Lib.hid (HB5.out.grown hg HB5.out.size (fun g e => (HE5.out.foot g e).1)); clear ho hg))
              go_roundw
              case rel => exact ⟨k + 1, p6, n6, c6, by omega, by go_num, rfl, by rw [Hes.out]; exact HE6, HB6⟩
              case measure => simp [intOf]; omega
            · have hk2 : k = m := by omega
              go_wp2
              go_ret
              have h1 := HE.out
              rw [hk2] at h1
              exact ⟨_, rfl, by rw [Hfin.out]; exact h1, HBr.out⟩
        · go_enter Try.func25, Try.ntmps25
          go_wp2_with (go_at_call 76; refine (Hlast.out).mono ?_; rintro r w1 ⟨rfl, hB⟩; have HB := Lib.hid hB; have H1 := Lib.hid (H.out.keeps hB.block); have c0 := H1.out.c0; have c2 := H1.out.c2; clear hB)
          go_quiet (fail)
          go_wp2
          have HBq := Lib.hid (show Below w.heap.size w (w1.drewN nq) from HB.out.trans ⟨rfl, rfl, rfl, Nat.le_refl _, fun _ _ => rfl⟩)
          go_loopw [7, 50] (fun v i wr => ∃ (k : Nat) (p : Option Addr) (n c : Nat), k ≤ m ∧ i = .int .i64 (k : Int) ∧ v = .slice p n c ∧ Hid (EsG wr (fun b => w.heap.size ≤ b) 53 (.slice p n c) ((es.drop k0).take k)) ∧ Hid (Below w.heap.size w wr)) (fun _ i _ => m - (intOf i).toNat)
          case atStart => exact ⟨0, none, 0, 0, Nat.zero_le _, rfl, rfl, Lib.hid (.inl ⟨rfl, by simp⟩), HBq⟩
          case round =>
            obtain ⟨k, p, n, c3, hk, rfl, rfl, HE, HBr⟩ := hrel
            by_cases hlk : k < m
            · have hkj : k0 + k < es.length := by have := Hkm.out; omega
              have hT := H.out.frame (fun b hb => HBr.out.block b hb.2)
              obtain ⟨b2, off2, n2, c2, d, hsv, hnn, hrange, hda, htl⟩ := hT.own.rd.elem (k0 + k) hkj
              cases hsv
              have Hra := Lib.hid (show wr.rangeAt b (off + k0 * 2 + k * 2) [.int .u64 ((es[k0 + k].1 : Nat) : Int), d] by rw [show off + k0 * 2 + k * 2 = off + (k0 + k) * 2 by omega]; exact hrange)
              have Htl := Lib.hid htl
              have Hes := Lib.hid (show (es.drop k0).take (k + 1) = (es.drop k0).take k ++ [(es[k0 + k].1, es[k0 + k].2)] by
                rw [List.take_succ_eq_append_getElem (by rw [List.length_drop]; omega)]; simp)
              have hll := Hl.out es[k0 + k] (List.getElem_mem _)
              have HZ := Lib.hid (heap_alloc_new wr (.cells #[.int .u64 0, .slice none 0 0] 53))
              have hlen : ((es.drop k0).take k).length ≤ 1000000 - 1 := by rw [List.length_take, List.length_drop]; omega
              generalize es[k0 + k].1 = t at *
              generalize es[k0 + k].2 = le at *
              obtain ⟨pd, cd, rfl⟩ : ∃ p c, d = .slice p le.length c := by obtain ⟨p, c, h1, _⟩ := hda.rd; exact ⟨p, c, h1⟩
              obtain ⟨W2, HW2, hE, hB2⟩ := stored53 wr t (.slice pd le.length cd)
              have HE1 := Lib.hid hE
              have HD := Lib.hid (hda.rd.below hB2)
              have HB2 := Lib.hid hB2
              have HEg := Lib.hid (HE.out.keeps hB2.block)
              have HBw := Lib.hid (HBr.out.trans (hB2.mono HBr.out.size))
              clear hrange hda htl hE hB2 hT hnn hkj
              go_wp2_with (first
                | (refine wpList_load_mid rfl 53 (.tmp 52) rfl _ _ rfl [.int .u64 (t : Int), .slice pd le.length cd] _ Hra.out Try.underlying53 rfl (show _ = some 2 by kernel_rfl) ?_)
                | (refine wpList_alloc_zero rfl 53 rfl _ hz53 ?_)
                | (refine wpList_store_rowTo rfl 53 (.tmp 10) (.tmp 53) rfl rfl _ #[.int .u64 (t : Int), .slice pd le.length cd] rfl rfl 53 #[.int .u64 0, .slice none 0 0] HZ.out (show _ = some 2 by kernel_rfl) rfl (ent_one _ _ _ _) ?_; rw [HW2.out])
                | (refine wpList_load_row rfl 53 (.tmp 10) rfl _ rfl _ _ _ _ HE1.out Try.underlying53 rfl (show _ = some 2 by kernel_rfl) ?_)
                | (go_at_call 78; refine (copied_w t (.slice pd le.length cd) le _ HD.out (by omega)).mono ?_; rintro r w5 ⟨p5, c5, rfl, hd5, hB⟩; have HD5 := Lib.hid (hd5.keeps ((Keeps.refl w5).alloc (.cells #[.int .u64 (t : Int), .slice p5 le.length c5] 53))); have HN5 := Lib.hid (EntAt.new w5 t (.slice p5 le.length c5)); have HE5 := Lib.hid ((HEg.out.keeps hB.block).keeps ((Keeps.refl w5).alloc (.cells #[.int .u64 (t : Int), .slice p5 le.length c5] 53))); have hsz5 := hB.size; have HB5 := Lib.hid ((HBw.out.trans (hB.mono HBw.out.size)).alloc (Nat.le_trans HBw.out.size hB.size) (.cells #[.int .u64 (t : Int), .slice p5 le.length c5] 53)); clear hd5 hB)
                | (refine wpList_append_esg rfl (.tmp 54) (.tmp 57) rfl (S' := fun b => w.heap.size ≤ b) rfl HE5.out rfl (fs := [(t, le)]) (EsC.cons Htl.out (HD5.out.mono fun b _ hb => (⟨Nat.le_trans HBw.out.size hb, fun e => by have hb2 : W2.heap.size ≤ b := hb; have := (HEg.out.foot b e).2; omega⟩ : (w.heap.size ≤ b) ∧ (Value.slice p n c3).ownBlock ≠ some b)) .nil) (.inr ⟨_, rfl, ent_cells HN5.out⟩) (by simp; omega) (fun b hb => hb) (by have := HB5.out.size; exact this) ?_; intro p6 n6 c6 w6 ho hg; have HE6 := Lib.hid ho; have HB6 := Lib.hid (HB5.out.grown hg HB5.out.size (fun g e => (HE5.out.foot g e).1)); clear ho hg))
              go_roundw
              case rel => exact ⟨k + 1, p6, n6, c6, by omega, by go_num, rfl, by rw [Hes.out]; exact HE6, HB6⟩
              case measure => simp [intOf]; omega
            · have hk2 : k = m := by omega
              go_wp2
              go_ret
              have h1 := HE.out
              rw [hk2] at h1
              exact ⟨_, rfl, by rw [Hfin.out]; exact h1, HBr.out⟩
        · go_enter Try.func25, Try.ntmps25
          go_wp2_with (go_at_call 76; refine (Hlast.out).mono ?_; rintro r w1 ⟨rfl, hB⟩; have HB := Lib.hid hB; have H1 := Lib.hid (H.out.keeps hB.block); have c0 := H1.out.c0; have c2 := H1.out.c2; clear hB)
          go_quiet (fail)
          go_wp2
          have HBq := Lib.hid (show Below w.heap.size w (w1.drewN nq) from HB.out.trans ⟨rfl, rfl, rfl, Nat.le_refl _, fun _ _ => rfl⟩)
          go_loopw [7, 50] (fun v i wr => ∃ (k : Nat) (p : Option Addr) (n c : Nat), k ≤ m ∧ i = .int .i64 (k : Int) ∧ v = .slice p n c ∧ Hid (EsG wr (fun b => w.heap.size ≤ b) 53 (.slice p n c) ((es.drop k0).take k)) ∧ Hid (Below w.heap.size w wr)) (fun _ i _ => m - (intOf i).toNat)
          case atStart => exact ⟨0, none, 0, 0, Nat.zero_le _, rfl, rfl, Lib.hid (.inl ⟨rfl, by simp⟩), HBq⟩
          case round =>
            obtain ⟨k, p, n, c3, hk, rfl, rfl, HE, HBr⟩ := hrel
            by_cases hlk : k < m
            · have hkj : k0 + k < es.length := by have := Hkm.out; omega
              have hT := H.out.frame (fun b hb => HBr.out.block b hb.2)
              obtain ⟨b2, off2, n2, c2, d, hsv, hnn, hrange, hda, htl⟩ := hT.own.rd.elem (k0 + k) hkj
              cases hsv
              have Hra := Lib.hid (show wr.rangeAt b (off + k0 * 2 + k * 2) [.int .u64 ((es[k0 + k].1 : Nat) : Int), d] by rw [show off + k0 * 2 + k * 2 = off + (k0 + k) * 2 by omega]; exact hrange)
              have Htl := Lib.hid htl
              have Hes := Lib.hid (show (es.drop k0).take (k + 1) = (es.drop k0).take k ++ [(es[k0 + k].1, es[k0 + k].2)] by
                rw [List.take_succ_eq_append_getElem (by rw [List.length_drop]; omega)]; simp)
              have hll := Hl.out es[k0 + k] (List.getElem_mem _)
              have HZ := Lib.hid (heap_alloc_new wr (.cells #[.int .u64 0, .slice none 0 0] 53))
              have hlen : ((es.drop k0).take k).length ≤ 1000000 - 1 := by rw [List.length_take, List.length_drop]; omega
              generalize es[k0 + k].1 = t at *
              generalize es[k0 + k].2 = le at *
              obtain ⟨pd, cd, rfl⟩ : ∃ p c, d = .slice p le.length c := by obtain ⟨p, c, h1, _⟩ := hda.rd; exact ⟨p, c, h1⟩
              obtain ⟨W2, HW2, hE, hB2⟩ := stored53 wr t (.slice pd le.length cd)
              have HE1 := Lib.hid hE
              have HD := Lib.hid (hda.rd.below hB2)
              have HB2 := Lib.hid hB2
              have HEg := Lib.hid (HE.out.keeps hB2.block)
              have HBw := Lib.hid (HBr.out.trans (hB2.mono HBr.out.size))
              clear hrange hda htl hE hB2 hT hnn hkj
              go_wp2_with (first
                | (refine wpList_load_mid rfl 53 (.tmp 52) rfl _ _ rfl [.int .u64 (t : Int), .slice pd le.length cd] _ Hra.out Try.underlying53 rfl (show _ = some 2 by kernel_rfl) ?_)
                | (refine wpList_alloc_zero rfl 53 rfl _ hz53 ?_)
                | (refine wpList_store_rowTo rfl 53 (.tmp 10) (.tmp 53) rfl rfl _ #[.int .u64 (t : Int), .slice pd le.length cd] rfl rfl 53 #[.int .u64 0, .slice none 0 0] HZ.out (show _ = some 2 by kernel_rfl) rfl (ent_one _ _ _ _) ?_; rw [HW2.out])
                | (refine wpList_load_row rfl 53 (.tmp 10) rfl _ rfl _ _ _ _ HE1.out Try.underlying53 rfl (show _ = some 2 by kernel_rfl) ?_)
                | (go_at_call 78; refine (copied_w t (.slice pd le.length cd) le _ HD.out (by omega)).mono ?_; rintro r w5 ⟨p5, c5, rfl, hd5, hB⟩; have HD5 := Lib.hid (hd5.keeps ((Keeps.refl w5).alloc (.cells #[.int .u64 (t : Int), .slice p5 le.length c5] 53))); have HN5 := Lib.hid (EntAt.new w5 t (.slice p5 le.length c5)); have HE5 := Lib.hid ((HEg.out.keeps hB.block).keeps ((Keeps.refl w5).alloc (.cells #[.int .u64 (t : Int), .slice p5 le.length c5] 53))); have hsz5 := hB.size; have HB5 := Lib.hid ((HBw.out.trans (hB.mono HBw.out.size)).alloc (Nat.le_trans HBw.out.size hB.size) (.cells #[.int .u64 (t : Int), .slice p5 le.length c5] 53)); clear hd5 hB)
                | (refine wpList_append_esg rfl (.tmp 54) (.tmp 57) rfl (S' := fun b => w.heap.size ≤ b) rfl HE5.out rfl (fs := [(t, le)]) (EsC.cons Htl.out (HD5.out.mono fun b _ hb => (⟨Nat.le_trans HBw.out.size hb, fun e => by have hb2 : W2.heap.size ≤ b := hb; have := (HEg.out.foot b e).2; omega⟩ : (w.heap.size ≤ b) ∧ (Value.slice p n c3).ownBlock ≠ some b)) .nil) (.inr ⟨_, rfl, ent_cells HN5.out⟩) (by simp; omega) (fun b hb => hb) (by have := HB5.out.size; exact this) ?_; intro p6 n6 c6 w6 ho hg; have HE6 := Lib.hid ho; have HB6 := Lib.hid (HB5.out.grown hg HB5.out.size (fun g e => (HE5.out.foot g e).1)); clear ho hg))
              go_roundw
              case rel => exact ⟨k + 1, p6, n6, c6, by omega, by go_num, rfl, by rw [Hes.out]; exact HE6, HB6⟩
              case measure => simp [intOf]; omega
            · have hk2 : k = m := by omega
              go_wp2
              go_ret
              have h1 := HE.out
              rw [hk2] at h1
              exact ⟨_, rfl, by rw [Hfin.out]; exact h1, HBr.out⟩
end Go.Proofs.Yteellfgiejnigaa
/- Walks of may and Cut. -/
namespace Go.Proofs.Yteellfgiejnigaa
open Go.ChangeShapes Go.WideShapes Go.ChangeAt Go.RowKit
set_option linter.unusedVariables false

def mayI (B n i : Nat) : Bool := decide (B ≤ i) && decide (i ≤ B + n)
def mayE (B n i : Nat) : Int := if mayI B n i then 0 else 2
set_option maxRecDepth 100000 in
theorem may_w (S : Foot) (g B T i : Nat) (v : Value) (es : List Ent) (w : World) (h : TkAt w S g B T v es) :
    Calls Try.prog 79 #[.pointer (some ⟨g, 0, none⟩), .int .u64 (i : Int)] w fun r w' => r = .returned (.int .i64 (mayE B es.length i)) ∧ Below w.heap.size w w' := by
  have Hlast := Lib.hid (last_w S g B T v es w h)
  have c0 := h.c0
  by_cases h1 : i < B
  · have e1 : decide (i < B) = true := by simp [h1]
    have Hf := Lib.hid (show mayE B es.length i = 2 by unfold mayE mayI; rw [if_neg (by simp; omega)])
    clear h Hlast
    go_enter Try.func79, Try.ntmps79
    go_wp2
    go_ret
    exact ⟨by rw [Hf.out]; rfl, Below.refl _ _⟩
  · have e1 : decide (i < B) = false := by simp; omega
    by_cases h2 : B + es.length < i
    · have e2 : decide (B + es.length < i) = true := by simp [h2]
      have Hf := Lib.hid (show mayE B es.length i = 2 by unfold mayE mayI; rw [if_neg (by simp; omega)])
      generalize B + es.length = L at *
      clear h
      go_enter Try.func79, Try.ntmps79
      go_wp2_with (go_at_call 76; refine (Hlast.out).mono ?_; rintro r w1 ⟨rfl, hB⟩; have HB := Lib.hid hB; clear hB)
      go_ret
      exact ⟨by rw [Hf.out]; rfl, HB.out⟩
    · have e2 : decide (B + es.length < i) = false := by simp; omega
      have Hf := Lib.hid (show mayE B es.length i = 0 by unfold mayE mayI; rw [if_pos (by simp; omega)])
      generalize B + es.length = L at *
      clear h
      go_enter Try.func79, Try.ntmps79
      go_wp2_with (go_at_call 76; refine (Hlast.out).mono ?_; rintro r w1 ⟨rfl, hB⟩; have HB := Lib.hid hB; clear hB)
      go_ret
      exact ⟨by rw [Hf.out]; rfl, HB.out⟩
theorem run_slice_hm_u (t e : TypeId) (ht : Try.prog.underlying t = some (.slice e)) (sz : Nat) (hsz : (Try.prog.info? e).map (·.size) = some sz) (p : Option Addr) (len cap : Nat) (n : Nat) (hn : n ≤ cap) (w : World) :
    (Instr.sliceAt t (.slice p len cap) none (some (.int .u64 (n : Int))) (some (.int .u64 (n : Int)))).run Try.prog w = .ok (.slice p n n) w := by
  obtain ⟨i, hi, hsi⟩ := Option.map_eq_some_iff.1 hsz
  simp [Instr.sliceAt, Instr.slice, Instr.sliceBounds, Instr.sliceBound, asIntOf, Sem.run_bind, run_underlying ht, sizeOf, typeInfo, hi, hn, Addr_add_zero]
/-- The row's beginning, with no room behind it. -/
theorem EsG.cut {w : World} {S : Foot} {e : TypeId} {p : Option Addr} {m c : Nat} {es : List Ent} (h : EsG w S e (.slice p m c) es) {n : Nat} (hn : n ≤ es.length) : EsG w S e (.slice p n n) (es.take n) := by
  rcases h with ⟨h, rfl⟩ | ⟨g, cap, cur, h, hg, hh, h1, h2, h3, h4⟩
  · cases h
    have : n = 0 := by simpa using hn
    subst this
    exact .inl ⟨rfl, rfl⟩
  · cases h
    have hl : (es.take n).length = n := by rw [List.length_take]; omega
    refine .inr ⟨g, n, cur, by rw [hl], hg, hh, by rw [hl]; exact Nat.le_refl _, by omega, by omega, ?_⟩
    have := h4.take n
    rw [List.take_take, Nat.min_eq_left (by omega)] at this
    rw [hl]; exact this
set_option maxRecDepth 100000 in
theorem cut_no_w (S : Foot) (g B T i : Nat) (v : Value) (es : List Ent) (w : World) (h : TkAt w S g B T v es) (hi : mayI B es.length i = false) :
    Calls Try.prog 26 #[.pointer (some ⟨g, 0, none⟩), .int .u64 (i : Int)] w fun r w' => r = .returned (.int .i64 2) ∧ Below w.heap.size w w' := by
  have HM := Lib.hid (may_w S g B T i v es w h)
  unfold mayE at HM
  rw [hi] at HM
  simp only [Bool.false_eq_true, if_false] at HM
  clear h hi
  go_enter Try.func26, Try.ntmps26
  go_wp2_with (go_at_call 79; refine (HM.out).mono ?_; rintro r w1 ⟨rfl, hB⟩; have HB := Lib.hid hB; clear hB)
  go_ret
  exact ⟨rfl, HB.out⟩
set_option maxRecDepth 100000 in
theorem cut_ok_w (S : Foot) (g B T i : Nat) (v : Value) (es : List Ent) (w : World) (h : TkAt w S g B T v es) (hi : mayI B es.length i = true) :
    Calls Try.prog 26 #[.pointer (some ⟨g, 0, none⟩), .int .u64 (i : Int)] w fun r w' => r = .returned (.int .i64 0) ∧ (∃ v', TkAt w' S g B T v' (es.take (i - B))) ∧ Touch S w w' := by
  have HM := Lib.hid (may_w S g B T i v es w h)
  unfold mayE at HM
  rw [hi] at HM
  simp only [if_true] at HM
  have H := Lib.hid h
  obtain ⟨p, c, rfl⟩ := h.own.form
  have hcap : es.length ≤ c := by obtain ⟨p, c', xs, e, q, _⟩ := h.own.rd; cases e; exact q
  have hin : B ≤ i ∧ i ≤ B + es.length := by unfold mayI at hi; simpa using hi
  obtain ⟨n, hn⟩ : ∃ n, n = i - B := ⟨_, rfl⟩
  have hfit := h.fits
  have e1 : IntKind.u64.wrap ((i : Int) - (B : Int)) = (n : Int) := by rw [IntWalk.u64_in _ (by omega)]; omega
  have hsl := fun x => run_slice_hm_u 28 53 Try.underlying28 2 (by kernel_rfl) p es.length c n (by omega) x
  have Hn := Lib.hid (And.intro hn (show n ≤ es.length by omega))
  clear h hi hin hcap hn hfit
  go_enter Try.func26, Try.ntmps26
  go_wp2_with (go_at_call 79; refine (HM.out).mono ?_; rintro r w1 ⟨rfl, hB⟩; have H1 := Lib.hid (H.out.keeps hB.block); have HB := Lib.hid hB; have c0 := H1.out.c0; have c2 := H1.out.c2; have f2 := H1.out.frozen 2; clear hB)
  go_ret
  refine ⟨rfl, ⟨.slice p n n, ?_⟩, ?_⟩
  · rw [← Hn.out.1]; exact H1.out.put H1.out.foot (H1.out.own.cut Hn.out.2) (by have := H1.out.fits; rw [List.length_take]; omega)
  · exact (Touch.of_below HB.out).trans (Touch.of_grownBy (S := S) (Lib.grownBy_setCell w1 g 2 (.slice p n n)) (fun b e => by cases e; exact H1.out.foot)) (fun b _ e => e)
end Go.Proofs.Yteellfgiejnigaa
/- The walk of the document's Same: are two rows the same entries? -/
namespace Go.Proofs.Yteellfgiejnigaa
open Go.ChangeShapes Go.WideShapes Go.ChangeAt Go.RowKit
set_option linter.unusedVariables false

theorem EsR.both {w : World} {S : Foot} {v : Value} {es : List Ent} (h : EsR w S v es) (k : Nat) (hk : k < es.length) : ∃ b off c d, v = .slice (some ⟨b, off, none⟩) es.length c ∧
    w.cell? ⟨b, off + k * 2, none⟩ = some (.int .u64 ((es[k].1 : Nat) : Int)) ∧ w.cell? ⟨b, off + k * 2 + 1, none⟩ = some d ∧ RdB w d es[k].2 := by
  obtain ⟨b, off, n, c, d, h1, h2, h3, h4, _⟩ := h.elem k hk
  subst h2
  exact ⟨b, off, c, d, h1, by simpa using h3 0 _ rfl, by simpa using h3 1 _ rfl, h4.rd⟩
theorem bytes_ne {l m : List UInt8} (h : l ≠ m) : ((⟨l.toArray⟩ : ByteArray) == (⟨m.toArray⟩ : ByteArray)) = false := by
  rw [beq_toListBytes, ByteArray.toList_eq, ByteArray.toList_eq]
  simpa using h
set_option maxRecDepth 100000 in
set_option maxHeartbeats 3200000 in
theorem same_w (R1 R2 : Foot) (va vb : Value) (es fs : List Ent) (w : World) (ha : EsR w R1 va es) (hb : EsR w R2 vb fs) (hn : es.length ≤ 1000000) :
    Calls Try.prog 29 #[va, vb] w fun r w' => r = .returned (.bool (decide (es = fs))) ∧ Below w.heap.size w w' := by
  obtain ⟨pa, ca, rfl⟩ : ∃ p c, va = .slice p es.length c := by obtain ⟨p, c, xs, e, _⟩ := ha; exact ⟨p, c, e⟩
  obtain ⟨pb, cb, rfl⟩ : ∃ p c, vb = .slice p fs.length c := by obtain ⟨p, c, xs, e, _⟩ := hb; exact ⟨p, c, e⟩
  have Ha := Lib.hid ha
  have Hb := Lib.hid hb
  clear ha hb
  by_cases hl : es.length = fs.length
  · have e1 : ((es.length : Int) == (fs.length : Int)) = true := by simp [hl]
    have e2 : (es.length == fs.length) = true := by simp [hl]
    have Hl := Lib.hid hl
    have e3 : decide (es.length = fs.length) = true := by simp [hl]
    have e0 : ((es.length : Int) != (fs.length : Int)) = false := by simp [hl]
    have e4 : (es.length != fs.length) = false := by simp [hl]
    clear hl
    go_enter Try.func29, Try.ntmps29
    go_wp2
    go_loopw [5] (fun i wr => ∃ k : Nat, k ≤ es.length ∧ i = .int .i64 (k : Int) ∧ Hid (es.take k = fs.take k) ∧ Hid (Below w.heap.size w wr)) (fun i _ => es.length - (intOf i).toNat)
    case atStart => exact ⟨0, Nat.zero_le _, rfl, Lib.hid rfl, Lib.hid (Below.refl _ _)⟩
    case round =>
      obtain ⟨k, hk, rfl, HT, HB⟩ := hrel
      by_cases hlt : k < es.length
      · have hlt2 : k < fs.length := by have := Hl.out; omega
        obtain ⟨b1, o1, c1, d1, hv1, q1, q2, q3⟩ := Ha.out.both k hlt
        obtain ⟨b2, o2, c2, d2, hv2, r1, r2, r3⟩ := Hb.out.both k hlt2
        cases hv1
        cases hv2
        have H1 := Lib.hid (And.intro q1 (And.intro q2 q3))
        have H2 := Lib.hid (And.intro r1 (And.intro r2 r3))
        have Hse := Lib.hid (show es.take (k + 1) = es.take k ++ [(es[k].1, es[k].2)] by rw [List.take_succ_eq_append_getElem hlt])
        have Hsf := Lib.hid (show fs.take (k + 1) = fs.take k ++ [(fs[k].1, fs[k].2)] by rw [List.take_succ_eq_append_getElem hlt2])
        have Hne := Lib.hid (fun (h : ¬ (es[k].1 = fs[k].1 ∧ es[k].2 = fs[k].2)) => (show decide (es = fs) = false by
          simp only [decide_eq_false_iff_not]; intro e; apply h; subst e; exact ⟨rfl, rfl⟩))
        have hnb : ¬ ((es.length : Int) ≤ (k : Int)) := by omega
        have hnb2 : ¬ (es.length ≤ k) := by omega
        have hnb3 : ¬ ((fs.length : Int) ≤ (k : Int)) := by omega
        have hnb4 : ¬ (fs.length ≤ k) := by omega
        generalize es[k].1 = t1 at *
        generalize es[k].2 = l1 at *
        generalize fs[k].1 = t2 at *
        generalize fs[k].2 = l2 at *
        obtain ⟨dp1, dc1, rfl⟩ : ∃ p c, d1 = .slice p l1.length c := by obtain ⟨p, c, h1, _⟩ := q3; exact ⟨p, c, h1⟩
        obtain ⟨dp2, dc2, rfl⟩ : ∃ p c, d2 = .slice p l2.length c := by obtain ⟨p, c, h1, _⟩ := r3; exact ⟨p, c, h1⟩
        obtain ⟨S1, E1⟩ : ∃ S, Hid ((⟨l1.toArray⟩ : ByteArray) = S) := ⟨_, Lib.hid rfl⟩
        obtain ⟨S2, E2⟩ : ∃ S, Hid ((⟨l2.toArray⟩ : ByteArray) = S) := ⟨_, Lib.hid rfl⟩
        have HK : Hid (Keeps w wr) := Lib.hid (fun b hb => HB.out.block b hb)
        have HW := Lib.hid (fun (W : World) (h : Keeps w W) => And.intro (And.intro (h.cell H1.out.1) (h.cell H1.out.2.1)) (And.intro (h.cell H2.out.1) (h.cell H2.out.2.1)))
        have HC := Lib.hid (fun (W : World) (h : Keeps w W) => And.intro (run_convert_str (P := Try.prog) (H1.out.2.2.keeps h) 29 5 9 Try.underlying29 Try.underlying5 Try.underlying9) (run_convert_str (P := Try.prog) (H2.out.2.2.keeps h) 29 5 9 Try.underlying29 Try.underlying5 Try.underlying9))
        clear q1 q2 q3 r1 r2 r3 hlt2
        by_cases ht : t1 = t2
        · subst ht
          by_cases hll : l1 = l2
          · subst hll
            go_wp2
            apply RegT.wp_region_T rfl 43 26 rfl (by kernel_rfl) RegT.Grow RegT.Grow.refl RegT.Grow.trans
            · iterate 2
                apply RegT.T_pure rfl rfl rfl
                · intro W hR; go_simp; rfl
                simp only [List.set_cons_succ, List.set_cons_zero, Nat.reduceAdd]
              apply RegT.T_pure (v := .pointer (some ⟨b1, o1 + k * 2, none⟩)) rfl rfl rfl
              · intro W hR; clear hR; go_simp
              simp only [List.set_cons_succ, List.set_cons_zero, Nat.reduceAdd]
              apply RegT.T_pure (v := .pointer (some ⟨b1, o1 + k * 2, none⟩)) rfl rfl rfl
              · intro W hR; clear hR; go_simp
              simp only [List.set_cons_succ, List.set_cons_zero, Nat.reduceAdd]
              apply RegT.T_pure (v := .int .u64 (t1 : Int)) rfl rfl rfl
              · intro W hR
                have hc := (HW.out W (HK.out.trans ((Keeps.refl wr).drew.trans hR.block))).1.1
                clear hR
                go_simp
              simp only [List.set_cons_succ, List.set_cons_zero, Nat.reduceAdd]
              iterate 2
                apply RegT.T_pure rfl rfl rfl
                · intro W hR; go_simp; rfl
                simp only [List.set_cons_succ, List.set_cons_zero, Nat.reduceAdd]
              apply RegT.T_pure (v := .pointer (some ⟨b2, o2 + k * 2, none⟩)) rfl rfl rfl
              · intro W hR; clear hR; go_simp
              simp only [List.set_cons_succ, List.set_cons_zero, Nat.reduceAdd]
              apply RegT.T_pure (v := .pointer (some ⟨b2, o2 + k * 2, none⟩)) rfl rfl rfl
              · intro W hR; clear hR; go_simp
              simp only [List.set_cons_succ, List.set_cons_zero, Nat.reduceAdd]
              apply RegT.T_pure (v := .int .u64 (t1 : Int)) rfl rfl rfl
              · intro W hR
                have hc := (HW.out W (HK.out.trans ((Keeps.refl wr).drew.trans hR.block))).2.1
                clear hR
                go_simp
              simp only [List.set_cons_succ, List.set_cons_zero, Nat.reduceAdd]
              apply RegT.T_pure (v := .bool false) rfl rfl rfl
              · intro W hR; clear hR; go_simp
              simp only [List.set_cons_succ, List.set_cons_zero, Nat.reduceAdd]
              iterate 1
                apply RegT.T_pure rfl rfl rfl
                · intro W hR; go_simp; rfl
                simp only [List.set_cons_succ, List.set_cons_zero, Nat.reduceAdd]
              iterate 2
                apply RegT.T_pure rfl rfl rfl
                · intro W hR; go_simp; rfl
                simp only [List.set_cons_succ, List.set_cons_zero, Nat.reduceAdd]
              apply RegT.T_pure (v := .pointer (some ⟨b1, o1 + k * 2, none⟩)) rfl rfl rfl
              · intro W hR; clear hR; go_simp
              simp only [List.set_cons_succ, List.set_cons_zero, Nat.reduceAdd]
              apply RegT.T_pure (v := .pointer (some ⟨b1, o1 + k * 2 + 1, none⟩)) rfl rfl rfl
              · intro W hR; clear hR; go_simp
              simp only [List.set_cons_succ, List.set_cons_zero, Nat.reduceAdd]
              apply RegT.T_pure (v := .slice dp1 l1.length dc1) rfl rfl rfl
              · intro W hR
                have hc := (HW.out W (HK.out.trans ((Keeps.refl wr).drew.trans hR.block))).1.2
                clear hR
                go_simp
              simp only [List.set_cons_succ, List.set_cons_zero, Nat.reduceAdd]
              apply RegT.T_pure (v := .string S1) rfl rfl rfl
              · intro W hR
                have hc := (HC.out W (HK.out.trans ((Keeps.refl wr).drew.trans hR.block))).1
                rw [E1.out] at hc
                clear hR
                go_simp
              simp only [List.set_cons_succ, List.set_cons_zero, Nat.reduceAdd]
              iterate 2
                apply RegT.T_pure rfl rfl rfl
                · intro W hR; go_simp; rfl
                simp only [List.set_cons_succ, List.set_cons_zero, Nat.reduceAdd]
              apply RegT.T_pure (v := .pointer (some ⟨b2, o2 + k * 2, none⟩)) rfl rfl rfl
              · intro W hR; clear hR; go_simp
              simp only [List.set_cons_succ, List.set_cons_zero, Nat.reduceAdd]
              apply RegT.T_pure (v := .pointer (some ⟨b2, o2 + k * 2 + 1, none⟩)) rfl rfl rfl
              · intro W hR; clear hR; go_simp
              simp only [List.set_cons_succ, List.set_cons_zero, Nat.reduceAdd]
              apply RegT.T_pure (v := .slice dp2 l1.length dc2) rfl rfl rfl
              · intro W hR
                have hc := (HW.out W (HK.out.trans ((Keeps.refl wr).drew.trans hR.block))).2.2
                clear hR
                go_simp
              simp only [List.set_cons_succ, List.set_cons_zero, Nat.reduceAdd]
              apply RegT.T_pure (v := .string S1) rfl rfl rfl
              · intro W hR
                have hc := (HC.out W (HK.out.trans ((Keeps.refl wr).drew.trans hR.block))).2
                rw [E1.out] at hc
                clear hR
                go_simp
              simp only [List.set_cons_succ, List.set_cons_zero, Nat.reduceAdd]
              apply RegT.T_pure (v := .bool false) rfl rfl rfl
              · intro W hR; clear hR; go_simp
              simp only [List.set_cons_succ, List.set_cons_zero, Nat.reduceAdd]
              apply RegT.T_pure (v := .bool false) rfl rfl rfl
              · intro W hR; clear hR; go_simp
              simp only [List.set_cons_succ, List.set_cons_zero, Nat.reduceAdd]
              refine RegT.T_tail (fun W hR hf => ?_)
              have HB2 := Lib.hid (HB.out.trans (((Below.refl _ wr).drew.trans hR).mono HB.out.size))
              clear hR hf
              simp only [List.drop_succ_cons, List.drop_zero]
              go_wp2
              go_roundw
              case rel => exact ⟨k + 1, by omega, by go_num, Lib.hid (by rw [Hse.out, Hsf.out, HT.out]), HB2⟩
              case measure => simp [intOf]; omega
            · rfl
            · kernel_rfl
          · have hs12 : (S1 == S2) = false := by rw [← E1.out, ← E2.out]; exact bytes_ne hll
            have hs0 : ¬ S1.toList = S2.toList := by rw [← E1.out, ← E2.out, ByteArray.toList_eq, ByteArray.toList_eq]; simpa using hll
            go_wp2
            apply RegT.wp_region_T rfl 43 26 rfl (by kernel_rfl) RegT.Grow RegT.Grow.refl RegT.Grow.trans
            · iterate 2
                apply RegT.T_pure rfl rfl rfl
                · intro W hR; go_simp; rfl
                simp only [List.set_cons_succ, List.set_cons_zero, Nat.reduceAdd]
              apply RegT.T_pure (v := .pointer (some ⟨b1, o1 + k * 2, none⟩)) rfl rfl rfl
              · intro W hR; clear hR; go_simp
              simp only [List.set_cons_succ, List.set_cons_zero, Nat.reduceAdd]
              apply RegT.T_pure (v := .pointer (some ⟨b1, o1 + k * 2, none⟩)) rfl rfl rfl
              · intro W hR; clear hR; go_simp
              simp only [List.set_cons_succ, List.set_cons_zero, Nat.reduceAdd]
              apply RegT.T_pure (v := .int .u64 (t1 : Int)) rfl rfl rfl
              · intro W hR
                have hc := (HW.out W (HK.out.trans ((Keeps.refl wr).drew.trans hR.block))).1.1
                clear hR
                go_simp
              simp only [List.set_cons_succ, List.set_cons_zero, Nat.reduceAdd]
              iterate 2
                apply RegT.T_pure rfl rfl rfl
                · intro W hR; go_simp; rfl
                simp only [List.set_cons_succ, List.set_cons_zero, Nat.reduceAdd]
              apply RegT.T_pure (v := .pointer (some ⟨b2, o2 + k * 2, none⟩)) rfl rfl rfl
              · intro W hR; clear hR; go_simp
              simp only [List.set_cons_succ, List.set_cons_zero, Nat.reduceAdd]
              apply RegT.T_pure (v := .pointer (some ⟨b2, o2 + k * 2, none⟩)) rfl rfl rfl
              · intro W hR; clear hR; go_simp
              simp only [List.set_cons_succ, List.set_cons_zero, Nat.reduceAdd]
              apply RegT.T_pure (v := .int .u64 (t1 : Int)) rfl rfl rfl
              · intro W hR
                have hc := (HW.out W (HK.out.trans ((Keeps.refl wr).drew.trans hR.block))).2.1
                clear hR
                go_simp
              simp only [List.set_cons_succ, List.set_cons_zero, Nat.reduceAdd]
              apply RegT.T_pure (v := .bool false) rfl rfl rfl
              · intro W hR; clear hR; go_simp
              simp only [List.set_cons_succ, List.set_cons_zero, Nat.reduceAdd]
              iterate 1
                apply RegT.T_pure rfl rfl rfl
                · intro W hR; go_simp; rfl
                simp only [List.set_cons_succ, List.set_cons_zero, Nat.reduceAdd]
              iterate 2
                apply RegT.T_pure rfl rfl rfl
                · intro W hR; go_simp; rfl
                simp only [List.set_cons_succ, List.set_cons_zero, Nat.reduceAdd]
              apply RegT.T_pure (v := .pointer (some ⟨b1, o1 + k * 2, none⟩)) rfl rfl rfl
              · intro W hR; clear hR; go_simp
              simp only [List.set_cons_succ, List.set_cons_zero, Nat.reduceAdd]
              apply RegT.T_pure (v := .pointer (some ⟨b1, o1 + k * 2 + 1, none⟩)) rfl rfl rfl
              · intro W hR; clear hR; go_simp
              simp only [List.set_cons_succ, List.set_cons_zero, Nat.reduceAdd]
              apply RegT.T_pure (v := .slice dp1 l1.length dc1) rfl rfl rfl
              · intro W hR
                have hc := (HW.out W (HK.out.trans ((Keeps.refl wr).drew.trans hR.block))).1.2
                clear hR
                go_simp
              simp only [List.set_cons_succ, List.set_cons_zero, Nat.reduceAdd]
              apply RegT.T_pure (v := .string S1) rfl rfl rfl
              · intro W hR
                have hc := (HC.out W (HK.out.trans ((Keeps.refl wr).drew.trans hR.block))).1
                rw [E1.out] at hc
                clear hR
                go_simp
              simp only [List.set_cons_succ, List.set_cons_zero, Nat.reduceAdd]
              iterate 2
                apply RegT.T_pure rfl rfl rfl
                · intro W hR; go_simp; rfl
                simp only [List.set_cons_succ, List.set_cons_zero, Nat.reduceAdd]
              apply RegT.T_pure (v := .pointer (some ⟨b2, o2 + k * 2, none⟩)) rfl rfl rfl
              · intro W hR; clear hR; go_simp
              simp only [List.set_cons_succ, List.set_cons_zero, Nat.reduceAdd]
              apply RegT.T_pure (v := .pointer (some ⟨b2, o2 + k * 2 + 1, none⟩)) rfl rfl rfl
              · intro W hR; clear hR; go_simp
              simp only [List.set_cons_succ, List.set_cons_zero, Nat.reduceAdd]
              apply RegT.T_pure (v := .slice dp2 l2.length dc2) rfl rfl rfl
              · intro W hR
                have hc := (HW.out W (HK.out.trans ((Keeps.refl wr).drew.trans hR.block))).2.2
                clear hR
                go_simp
              simp only [List.set_cons_succ, List.set_cons_zero, Nat.reduceAdd]
              apply RegT.T_pure (v := .string S2) rfl rfl rfl
              · intro W hR
                have hc := (HC.out W (HK.out.trans ((Keeps.refl wr).drew.trans hR.block))).2
                rw [E2.out] at hc
                clear hR
                go_simp
              simp only [List.set_cons_succ, List.set_cons_zero, Nat.reduceAdd]
              apply RegT.T_pure (v := .bool true) rfl rfl rfl
              · intro W hR; clear hR; go_simp
              simp only [List.set_cons_succ, List.set_cons_zero, Nat.reduceAdd]
              apply RegT.T_pure (v := .bool true) rfl rfl rfl
              · intro W hR; clear hR; go_simp
              simp only [List.set_cons_succ, List.set_cons_zero, Nat.reduceAdd]
              refine RegT.T_tail (fun W hR hf => ?_)
              have HB2 := Lib.hid (HB.out.trans (((Below.refl _ wr).drew.trans hR).mono HB.out.size))
              clear hR hf
              simp only [List.drop_succ_cons, List.drop_zero]
              go_wp2
              go_ret
              exact ⟨by rw [Hne.out (fun e => hll e.2)]; rfl, HB2.out⟩
            · rfl
            · kernel_rfl
        · have ht1 : (t1 == t2) = false := by simp [ht]
          have ht0 : ¬ ((t1 : Int) = (t2 : Int)) := by omega
          have ht2 : decide (t1 = t2) = false := by simp [ht]
          go_wp2
          apply RegT.wp_region_T rfl 43 26 rfl (by kernel_rfl) RegT.Grow RegT.Grow.refl RegT.Grow.trans
          · iterate 2
              apply RegT.T_pure rfl rfl rfl
              · intro W hR; go_simp; rfl
              simp only [List.set_cons_succ, List.set_cons_zero, Nat.reduceAdd]
            apply RegT.T_pure (v := .pointer (some ⟨b1, o1 + k * 2, none⟩)) rfl rfl rfl
            · intro W hR; clear hR; go_simp
            simp only [List.set_cons_succ, List.set_cons_zero, Nat.reduceAdd]
            apply RegT.T_pure (v := .pointer (some ⟨b1, o1 + k * 2, none⟩)) rfl rfl rfl
            · intro W hR; clear hR; go_simp
            simp only [List.set_cons_succ, List.set_cons_zero, Nat.reduceAdd]
            apply RegT.T_pure (v := .int .u64 (t1 : Int)) rfl rfl rfl
            · intro W hR
              have hc := (HW.out W (HK.out.trans ((Keeps.refl wr).drew.trans hR.block))).1.1
              clear hR
              go_simp
            simp only [List.set_cons_succ, List.set_cons_zero, Nat.reduceAdd]
            iterate 2
              apply RegT.T_pure rfl rfl rfl
              · intro W hR; go_simp; rfl
              simp only [List.set_cons_succ, List.set_cons_zero, Nat.reduceAdd]
            apply RegT.T_pure (v := .pointer (some ⟨b2, o2 + k * 2, none⟩)) rfl rfl rfl
            · intro W hR; clear hR; go_simp
            simp only [List.set_cons_succ, List.set_cons_zero, Nat.reduceAdd]
            apply RegT.T_pure (v := .pointer (some ⟨b2, o2 + k * 2, none⟩)) rfl rfl rfl
            · intro W hR; clear hR; go_simp
            simp only [List.set_cons_succ, List.set_cons_zero, Nat.reduceAdd]
            apply RegT.T_pure (v := .int .u64 (t2 : Int)) rfl rfl rfl
            · intro W hR
              have hc := (HW.out W (HK.out.trans ((Keeps.refl wr).drew.trans hR.block))).2.1
              clear hR
              go_simp
            simp only [List.set_cons_succ, List.set_cons_zero, Nat.reduceAdd]
            apply RegT.T_pure (v := .bool true) rfl rfl rfl
            · intro W hR; clear hR; go_simp
            simp only [List.set_cons_succ, List.set_cons_zero, Nat.reduceAdd]
            iterate 1
              apply RegT.T_pure rfl rfl rfl
              · intro W hR; go_simp; rfl
              simp only [List.set_cons_succ, List.set_cons_zero, Nat.reduceAdd]
            iterate 13
              apply RegT.T_skip rfl rfl rfl
              simp only [List.set_cons_succ, List.set_cons_zero, Nat.reduceAdd]
            apply RegT.T_pure (v := .bool true) rfl rfl rfl
            · intro W hR; clear hR; go_simp
            simp only [List.set_cons_succ, List.set_cons_zero, Nat.reduceAdd]
            refine RegT.T_tail (fun W hR hf => ?_)
            have HB2 := Lib.hid (HB.out.trans (((Below.refl _ wr).drew.trans hR).mono HB.out.size))
            clear hR hf
            simp only [List.drop_succ_cons, List.drop_zero]
            go_wp2
            go_ret
            exact ⟨by rw [Hne.out (fun e => ht e.1)]; rfl, HB2.out⟩
          · rfl
          · kernel_rfl
      · have hk2 : k = es.length := by omega
        have Hfin := Lib.hid (show decide (es = fs) = true by
          have h1 := HT.out
          rw [hk2, List.take_length, Hl.out, List.take_length] at h1
          simp [h1])
        go_wp2
        go_ret
        exact ⟨by rw [Hfin.out]; rfl, HB.out⟩
  · have e1 : ((es.length : Int) == (fs.length : Int)) = false := by simp; omega
    have e2 : (es.length == fs.length) = false := by simp [hl]
    have e3 : decide (es.length = fs.length) = false := by simp [hl]
    have Hf := Lib.hid (show decide (es = fs) = false by simp only [decide_eq_false_iff_not]; intro e; exact hl (by rw [e]))
    clear hl
    go_enter Try.func29, Try.ntmps29
    go_wp2
    go_ret
    exact ⟨by rw [Hf.out]; rfl, Below.refl _ _⟩
end Go.Proofs.Yteellfgiejnigaa
/- Entries that came in. -/
namespace Go.Proofs.Yteellfgiejnigaa
open Go.ChangeShapes Go.WideShapes Go.ChangeAt Go.RowKit Go.Deep
set_option linter.unusedVariables false

def flat3 : List (Nat × Value × List UInt8) → List Value
  | [] => []
  | x :: l => .int .u64 (x.1 : Int) :: x.2.1 :: flat3 l
theorem flat3_at : ∀ (ls : List (Nat × Value × List UInt8)) (j : Nat) (u : Value), (flat3 ls)[j]? = some u → ∃ k, ∃ hk : k < ls.length, (j = k * 2 ∧ u = .int .u64 (ls[k].1 : Int)) ∨ (j = k * 2 + 1 ∧ u = ls[k].2.1)
  | [], j, u, h => by simp [flat3] at h
  | x :: l, 0, u, h => by
    simp only [flat3, List.getElem?_cons_zero, Option.some.injEq] at h
    exact ⟨0, by simp, .inl ⟨rfl, h.symm⟩⟩
  | x :: l, 1, u, h => by
    simp only [flat3, List.getElem?_cons_succ, List.getElem?_cons_zero, Option.some.injEq] at h
    exact ⟨0, by simp, .inr ⟨rfl, h.symm⟩⟩
  | x :: l, j + 2, u, h => by
    simp only [flat3, List.getElem?_cons_succ] at h
    obtain ⟨k, hk, hku⟩ := flat3_at l j u h
    refine ⟨k + 1, by simp; omega, ?_⟩
    rcases hku with ⟨hj, hu⟩ | ⟨hj, hu⟩
    · exact .inl ⟨by omega, hu⟩
    · exact .inr ⟨by omega, hu⟩
theorem flat3_es {w : World} {S : Foot} : ∀ (ls : List (Nat × Value × List UInt8)), (∀ x ∈ ls, x.1 < 2 ^ 64 ∧ DatA w S x.2.1 x.2.2) → EsC w S (flat3 ls) (ls.map fun x => (x.1, x.2.2))
  | [], _ => .nil
  | x :: l, h => .cons (h x (List.mem_cons_self ..)).1 (h x (List.mem_cons_self ..)).2 (flat3_es l fun y hy => h y (List.mem_cons_of_mem _ hy))
theorem list_of_fn {α : Type} [Inhabited α] (n : Nat) (p : Nat → α → Prop) (h : ∀ i, i < n → ∃ x, p i x) : ∃ l : List α, l.length = n ∧ ∀ i, i < n → p i (l.getD i default) := by
  obtain ⟨f, hf⟩ := choose_lt h
  refine ⟨(List.range n).map f, by simp, fun i hi => ?_⟩
  have : ((List.range n).map f).getD i default = f i := by
    rw [getD_of_lt _ _ _ (by simpa using hi)]; simp
  rw [this]; exact hf i hi
theorem DatA.of_rd {w : World} {v : Value} {l : List UInt8} (h : RdB w v l) (hz : ∀ b off c, v = .slice (some ⟨b, off, none⟩) l.length c → ∀ i, i < l.length → w.frozen? ⟨b, off + i, none⟩ = false) : DatA w (fun b => b < w.heap.size) v l := by
  have hlt : ∀ g, v.ownBlock = some g → l ≠ [] → g < w.heap.size := by
    intro g e hne
    obtain ⟨p, c, rfl, hp⟩ := h
    obtain ⟨b, off, rfl, hb, _⟩ := PtB.at hp (k := 0) (List.length_pos_iff.2 hne)
    cases e
    exact hb
  exact ⟨h, hlt, hlt, hz⟩

section
variable {H : Type} {enc : TypeId × Value → H} {w : World} {base : Nat} {held : Bool}
set_option maxRecDepth 100000 in
theorem ents_of_trod {d : DataW H} {p : List MemPlace} {a : Option Addr} {len cap : Nat}
    (hz : ∀ b off, MemPlace.cell b off ∈ p → w.frozen? ⟨b, off, none⟩ = false) (hs : Fits Try.prog 28 d) (h : DataW.Trod enc Try.prog w base (fun _ => true) true 28 (.slice a len cap) d p) : ∃ es, EsR w (fun b => b < w.heap.size) (.slice a len cap) es ∧ ∀ e ∈ es, e.2.length ≤ 140737488351232 := by
  obtain ⟨h1, h2, h3, h4⟩ := open_structs_fit (C := 2) Try.underlying28 Try.underlying53 (by kernel_rfl) ⟨_, Array.mem_of_getElem? (i := 0) rfl, rfl, by kernel_rfl⟩ (by decide) hs h
  rcases Nat.eq_zero_or_pos len with hz | hpos
  · subst hz
    exact ⟨[], ⟨a, cap, [], rfl, h1, h2, h3, .nil, fun h => absurd rfl h⟩, fun e he => by cases he⟩
  · obtain ⟨b, off, rfl, hb, hc⟩ := h4 hpos
    obtain ⟨ls, hl, hp⟩ := list_of_fn len (fun i (x : Nat × Value × List UInt8) => (w.cell? ⟨b, off + i * 2, none⟩ = some (.int .u64 (x.1 : Int)) ∧ w.cell? ⟨b, off + i * 2 + 1, none⟩ = some x.2.1) ∧ (x.1 < 2 ^ 64 ∧ DatA w (fun b => b < w.heap.size) x.2.1 x.2.2) ∧ x.2.2.length ≤ 140737488351232) (fun i hi => by
      obtain ⟨u0, y0, n0, c0, t0, _⟩ := hc i hi _ (Array.mem_of_getElem? (i := 0) rfl) (by kernel_rfl) (by decide)
      obtain ⟨u1, y1, n1, c1, t1, f1, g1⟩ := hc i hi _ (Array.mem_of_getElem? (i := 1) rfl) (by kernel_rfl) (by decide)
      obtain ⟨z0, e0, _, w0⟩ := DataW.trod_int Try.underlying22 t0
      obtain ⟨t, ht, htl, hfz⟩ : ∃ t, RdB w u1 t ∧ t.length ≤ 140737488351232 ∧ ∀ b off c, u1 = .slice (some ⟨b, off, none⟩) t.length c → ∀ i, i < t.length → w.frozen? ⟨b, off + i, none⟩ = false := by
        obtain ⟨a2, l2, c3, e2⟩ := Go.Joins.slice_form Try.underlying29 t1
        simp only [List.cons.injEq, and_true] at e2
        subst e2
        have h29 : DataW.Trod enc Try.prog w base (fun _ => true) true 29 (.slice a2 l2 c3) y1.1 y1.2 := ⟨n1, t1⟩
        obtain ⟨t, htl, ht⟩ := RdB_of_trod Try.underlying29 Try.underlying5 (by kernel_rfl) h29
        refine ⟨t, ht, by rw [htl]; exact bytes_fit Try.underlying29 (by kernel_rfl) f1 h29, fun b off c e i hi => ?_⟩
        cases e
        exact hz _ _ (g1 _ (bytes_places Try.underlying29 (by kernel_rfl) h29 _ _ rfl i (by omega)))
      simp only [List.cons.injEq, and_true] at e0
      subst e0
      obtain ⟨m, hm⟩ : ∃ m : Nat, z0 = (m : Int) := ⟨z0.toNat, by have := (wf_u64 w0).1; omega⟩
      subst hm
      exact ⟨(m, u1, t), ⟨c0, c1⟩, ⟨by have := (wf_u64 w0).2; show m < 2 ^ 64; omega, DatA.of_rd ht hfz⟩, htl⟩)
    subst hl
    refine ⟨ls.map fun x => (x.1, x.2.2), ⟨some ⟨b, off, none⟩, cap, flat3 ls, by rw [List.length_map], by rw [List.length_map]; exact h1, h2, h3, flat3_es ls fun x hx => ?_, fun _ => ⟨b, off, rfl, hb, hb, fun j u hu => ?_⟩⟩, fun e he => ?_⟩
    · obtain ⟨i, hi, hx⟩ := List.getElem_of_mem hx
      have := (hp i hi).2.1
      rw [getD_of_lt _ _ _ hi, hx] at this
      exact this
    · obtain ⟨k, hk, h⟩ := flat3_at ls j u hu
      have := (hp k hk).1
      rw [getD_of_lt _ _ _ hk] at this
      rcases h with ⟨rfl, rfl⟩ | ⟨rfl, rfl⟩
      · exact this.1
      · rw [← Nat.add_assoc]; exact this.2
    · obtain ⟨x, hx, rfl⟩ := List.mem_map.1 he
      obtain ⟨i, hi, hx⟩ := List.getElem_of_mem hx
      have := (hp i hi).2.2
      rw [getD_of_lt _ _ _ hi, hx] at this
      exact this
end
end Go.Proofs.Yteellfgiejnigaa
/- The walk of tame: how many entries, and how many bytes, calls hold. -/
namespace Go.Proofs.Yteellfgiejnigaa
open Go.ChangeShapes Go.WideShapes Go.ChangeAt Go.RowKit
set_option linter.unusedVariables false

def dsum : List Ent → Nat
  | [] => 0
  | e :: l => e.2.length + dsum l
def osum : List (List Ent) → Nat
  | [] => 0
  | e :: l => dsum e + osum l
theorem dsum_append : ∀ a b : List Ent, dsum (a ++ b) = dsum a + dsum b
  | [], b => by simp [dsum]
  | e :: l, b => by simp only [List.cons_append, dsum, dsum_append l b]; omega
theorem osum_append : ∀ a b : List (List Ent), osum (a ++ b) = osum a + osum b
  | [], b => by simp [osum]
  | e :: l, b => by simp only [List.cons_append, osum, osum_append l b]; omega
theorem dsum_le {M : Nat} : ∀ l : List Ent, (∀ e ∈ l, e.2.length ≤ M) → dsum l ≤ l.length * M
  | [], _ => Nat.zero_le _
  | e :: l, h => by
    have h1 := h e (List.mem_cons_self ..)
    have h2 := dsum_le l fun x hx => h x (List.mem_cons_of_mem _ hx)
    rw [dsum, List.length_cons, Nat.add_mul]; omega
theorem osum_le {M : Nat} : ∀ l : List (List Ent), (∀ x ∈ l, dsum x ≤ M) → osum l ≤ l.length * M
  | [], _ => Nat.zero_le _
  | e :: l, h => by
    have h1 := h e (List.mem_cons_self ..)
    have h2 := osum_le l fun x hx => h x (List.mem_cons_of_mem _ hx)
    rw [osum, List.length_cons, Nat.add_mul]; omega
theorem le_dsum : ∀ (l : List Ent) (e : Ent), e ∈ l → e.2.length ≤ dsum l
  | x :: l, e, h => by
    rcases List.mem_cons.1 h with rfl | h
    · rw [dsum]; omega
    · have := le_dsum l e h; rw [dsum]; omega
theorem le_osum : ∀ (l : List (List Ent)) (x : List Ent), x ∈ l → dsum x ≤ osum l
  | y :: l, x, h => by
    rcases List.mem_cons.1 h with rfl | h
    · rw [osum]; omega
    · have := le_osum l x h; rw [osum]; omega
/-- Calls that are looked at. -/
def tameR (ls : List (List Ent)) : Bool := decide (ls.length ≤ 100 ∧ (∀ x ∈ ls, x.length ≤ 30) ∧ osum ls < 50000)
/-- The value is a row of calls with these entries. -/
def OpsL (w : World) (v : Value) (ls : List (List Ent)) : Prop := ∃ p c, v = .slice p ls.length c ∧
  (ls ≠ [] → ∃ b off, p = some ⟨b, off, none⟩ ∧ ∀ i (hi : i < ls.length), ∃ u S, w.cell? ⟨b, off + i * 5 + 4, none⟩ = some u ∧ EsR w S u ls[i])
theorem tame_no {ls : List (List Ent)} {k : Nat} (hk : k < ls.length) (h : 30 < ls[k].length) : tameR ls = false := by
  unfold tameR
  simp only [decide_eq_false_iff_not]
  intro e
  have := e.2.1 ls[k] (List.getElem_mem _)
  omega

set_option maxRecDepth 100000 in
set_option maxHeartbeats 1600000 in
theorem tame_w (v : Value) (ls : List (List Ent)) (w : World) (h : OpsL w v ls) (hd : ∀ x ∈ ls, ∀ e ∈ x, e.2.length ≤ 140737488355328) :
    Calls Try.prog 21 #[v] w fun r w' => r = .returned (.bool (tameR ls)) ∧ Below w.heap.size w w' := by
  obtain ⟨p, c, rfl, h⟩ := h
  have Hat := Lib.hid h
  have Hd := Lib.hid hd
  clear h hd
  go_enter Try.func21, Try.ntmps21
  go_wp2
  go_loop [3, 4] (fun n i => ∃ k : Nat, k ≤ ls.length ∧ k ≤ 101 ∧ i = .int .i64 (k : Int) ∧ n = .int .i64 ((osum (ls.take k) : Nat) : Int) ∧ Hid (∀ x ∈ ls.take k, x.length ≤ 30)) (fun _ i => 101 - (intOf i).toNat)
  case atStart => exact ⟨0, Nat.zero_le _, by decide, rfl, by simp [osum], Lib.hid (by simp)⟩
  case round =>
    obtain ⟨k, hk, hk1, rfl, rfl, HS⟩ := hrel
    have hsb : osum (ls.take k) ≤ 101 * (30 * 140737488355328) := by
      refine Nat.le_trans (osum_le (M := 30 * 140737488355328) _ fun x hx => ?_) ?_
      · refine Nat.le_trans (dsum_le x fun e he => Hd.out x (List.mem_of_mem_take hx) e he) (Nat.mul_le_mul_right _ (HS.out x hx))
      · rw [List.length_take]; exact Nat.mul_le_mul_right _ (by omega)
    by_cases hlt : k < ls.length ∧ k < 101
    · obtain ⟨hlt, hlt1⟩ := hlt
      obtain ⟨b, off, rfl, hc⟩ := Hat.out (by intro e; subst e; simp at hlt)
      obtain ⟨u, S, hcell, hes⟩ := hc k hlt
      have Hdk := Lib.hid (Hd.out ls[k] (List.getElem_mem _))
      have Hno := Lib.hid (fun h => tame_no hlt h)
      have Htk := Lib.hid (show ls.take (k + 1) = ls.take k ++ [ls[k]] by rw [List.take_succ_eq_append_getElem hlt])
      generalize ls[k] = es at *
      obtain ⟨s0, hs0⟩ : ∃ s0, osum (ls.take k) = s0 := ⟨_, rfl⟩
      rw [hs0] at hsb ⊢
      have Hs0 := Lib.hid hs0
      clear hs0
      obtain ⟨p2, c2, rfl⟩ : ∃ p c, u = .slice p es.length c := by obtain ⟨p, c, xs, e, _⟩ := hes; exact ⟨p, c, e⟩
      have Hes := Lib.hid hes
      clear hc hes
      go_wp2
      go_loop [3, 5] (fun n j => ∃ m : Nat, m ≤ es.length ∧ m ≤ 31 ∧ j = .int .i64 (m : Int) ∧ n = .int .i64 ((s0 + dsum (es.take m) : Nat) : Int)) (fun _ i => 31 - (intOf i).toNat)
      case atStart => exact ⟨0, Nat.zero_le _, by decide, rfl, by simp [dsum]⟩
      case round =>
        obtain ⟨m, hm, hm1, rfl, rfl⟩ := hrel
        have hdb : dsum (es.take m) ≤ 31 * 140737488355328 := by
          refine Nat.le_trans (dsum_le (M := 140737488355328) _ fun e he => Hdk.out e (List.mem_of_mem_take he)) ?_
          rw [List.length_take]; exact Nat.mul_le_mul_right _ (by omega)
        by_cases hl2 : m < es.length
        · by_cases hl3 : m < 31
          · obtain ⟨b2, off2, c3, d, hv, hc0, hc1, hrd⟩ := Hes.out.both m hl2
            cases hv
            have hdl := Hdk.out es[m] (List.getElem_mem _)
            have Hsm := Lib.hid (show dsum (es.take (m + 1)) = dsum (es.take m) + es[m].2.length by rw [List.take_succ_eq_append_getElem hl2, dsum_append]; simp [dsum])
            obtain ⟨pd, cd, rfl⟩ : ∃ p c, d = .slice p es[m].2.length c := by obtain ⟨p, c, h1, _⟩ := hrd; exact ⟨p, c, h1⟩
            generalize es[m].2.length = q at *
            generalize dsum (es.take m) = s1 at *
            clear hrd hc0
            go_wp2
            go_round
            case rel => exact ⟨m + 1, by omega, by omega, by go_num, by rw [Hsm.out]; go_num⟩
            case measure => simp [intOf]; omega
          · have hm31 : m = 31 := by omega
            subst hm31
            have hno := Hno.out (by omega)
            generalize dsum (es.take 31) = s1 at *
            go_wp2
            go_ret
            exact ⟨rfl, Below.refl _ _⟩
        · have hml : m = es.length := by omega
          subst hml
          by_cases hov : 30 < es.length
          · have hno := Hno.out hov
            generalize dsum (es.take es.length) = s1 at *
            generalize es.length = q at *
            go_wp2
            go_ret
            exact ⟨rfl, Below.refl _ _⟩
          · have Hov := Lib.hid hov
            obtain ⟨s1, hs1⟩ : ∃ s1, dsum (es.take es.length) = s1 := ⟨_, rfl⟩
            rw [hs1] at hdb ⊢
            have Hta := Lib.hid (show s1 = dsum es by rw [← hs1, List.take_length])
            clear hs1
            go_wp2
            go_round
            case rel =>
              refine ⟨k + 1, by omega, by omega, by go_num, ?_, Lib.hid fun x hx => ?_⟩
              · rw [Htk.out, osum_append, osum, osum, Hs0.out, ← Hta.out]; go_num
              · rw [Htk.out] at hx
                rcases List.mem_append.1 hx with hx | hx
                · exact HS.out x hx
                · simp only [List.mem_singleton] at hx; subst hx; have := Hov.out; omega
            case measure => simp [intOf]; omega
    · have Hend := Lib.hid (show tameR ls = (decide (ls.length ≤ 100) && decide (osum (ls.take k) < 50000)) by
        by_cases h100 : ls.length ≤ 100
        · have hkl : k = ls.length := by omega
          have h1 := HS.out
          rw [hkl, List.take_length] at h1 ⊢
          unfold tameR
          have e2 : (∀ x ∈ ls, x.length ≤ 30) ↔ True := iff_true_intro h1
          simp only [e2, h100, true_and, decide_true, Bool.true_and]
        · unfold tameR
          simp [h100])
      generalize osum (ls.take k) = s0 at *
      by_cases h100 : ls.length ≤ 100
      · have e2 : decide (ls.length ≤ 100) = true := by simp; omega
        rw [e2, Bool.true_and] at Hend
        have hkl : k = ls.length := by omega
        subst hkl
        clear Hat Hd HS
        generalize ls.length = q at *
        by_cases h5 : s0 < 50000
        · have e3 : decide (s0 < 50000) = true := by simp; omega
          rw [e3] at Hend
          go_wp2
          go_ret
          refine ⟨?_, Below.refl _ _⟩
          rw [Hend.out]
          have e4 : ((s0 : Int) < 50000) = (s0 < 50000) := by apply propext; omega
          simp [h5, e4]
        · have e3 : decide (s0 < 50000) = false := by simp; omega
          rw [e3] at Hend
          go_wp2
          go_ret
          refine ⟨?_, Below.refl _ _⟩
          rw [Hend.out]
          have e4 : ((s0 : Int) < 50000) = (s0 < 50000) := by apply propext; omega
          simp [h5, e4]
      · have e2 : decide (ls.length ≤ 100) = false := by simp; omega
        rw [e2, Bool.false_and] at Hend
        have hk2 : k = 101 := by omega
        subst hk2
        have hq : ls.length = 101 ∨ 101 < ls.length := by omega
        clear Hat Hd HS
        generalize ls.length = q at *
        rcases hq with rfl | hq
        · go_wp2
          go_ret
          exact ⟨by rw [Hend.out]; rfl, Below.refl _ _⟩
        · go_wp2
          go_ret
          exact ⟨by rw [Hend.out]; rfl, Below.refl _ _⟩
end Go.Proofs.Yteellfgiejnigaa
/- What Meet says, in plain numbers: behind what is kept and added the log has what was met. -/
namespace Go.Proofs.Yteellfgiejnigaa
set_option linter.unusedVariables false

/-- What the log is behind what Meet says. -/
def nowL (B keep : Nat) (es add : List Ent) : List Ent := es.take (keep - B) ++ add
structure MeetLaw (B T : Nat) (es : List Ent) (prev keep : Nat) (ss add : List Ent) : Prop where
  lo : B ≤ keep
  hi : keep ≤ B + es.length
  at' : ∀ i, i < ss.length → B < prev + i + 1 → termAt B T (nowL B keep es add) (prev + i + 1) = ((ss.getD i (0, [])).1, true)
  tip : (add = [] ∧ keep = B + es.length) ∨ (0 < add.length ∧ keep + add.length = prev + ss.length)
  slice : sliceR B (nowL B keep es add) (B + 1) ((keep - B : Nat) : Int) = es.take (keep - B)
  sub : ∀ e ∈ add, e ∈ ss
  len : add.length ≤ ss.length
theorem nowL_len {B keep : Nat} {es add : List Ent} (hi : keep ≤ B + es.length) (lo : B ≤ keep) : B + (nowL B keep es add).length = keep + add.length := by
  unfold nowL; rw [List.length_append, List.length_take]; omega
theorem meet_slice {B keep : Nat} {es add : List Ent} (lo : B ≤ keep) (hi : keep ≤ B + es.length) : sliceR B (nowL B keep es add) (B + 1) ((keep - B : Nat) : Int) = es.take (keep - B) := by
  have hlen := nowL_len (add := add) hi lo
  unfold sliceR
  by_cases h : keep = B
  · rw [if_pos (.inr (.inr (by omega)))]
    simp [h]
  · rw [if_neg (by omega), show B + 1 - B - 1 = 0 by omega, List.drop_zero, Int.toNat_natCast]
    unfold nowL
    rw [List.take_append_of_le_length (by rw [List.length_take]; omega), List.take_take, Nat.min_self]
theorem termAt_of {B T : Nat} {es : List Ent} {i : Nat} (h : B < i) (h2 : i ≤ B + es.length) : termAt B T es i = ((es.getD (i - B - 1) (0, [])).1, true) := by
  unfold termAt
  rw [if_neg (by omega), if_neg (by omega)]
theorem meets_not {B T : Nat} {es : List Ent} {prev : Nat} {ss : List Ent} {k : Nat} (h : misses B T es prev ss k = false) (hb : B < prev + k + 1) : prev + k + 1 ≤ B + es.length ∧ (es.getD (prev + k - B) (0, [])).1 = (ss.getD k (0, [])).1 := by
  unfold misses at h
  have hin : prev + k + 1 ≤ B + es.length := by
    apply Classical.byContradiction
    intro hn
    have : termAt B T es (prev + k + 1) = (0, false) := by unfold termAt; rw [if_pos (.inr (by omega))]
    rw [this] at h
    simp [hb] at h
  rw [termAt_of hb hin] at h
  refine ⟨hin, ?_⟩
  rw [show prev + k - B = prev + k + 1 - B - 1 by omega]
  simpa [hb] using h
theorem meet_law {B T : Nat} {es : List Ent} {prev term : Nat} {ss : List Ent} (hB : B ≤ 9223372036854775808) (hp : prev ≤ 9223372036854775808) (hs : ss.length ≤ 30) :
    (meetR B T es prev term ss).2.2 = 0 → MeetLaw B T es prev (meetR B T es prev term ss).1 ss (meetR B T es prev term ss).2.1 := by
  have hN : placedN prev ss.length = ss.length := by unfold placedN; omega
  unfold meetR
  rw [hN]
  by_cases h1 : prev < B ∧ ss.length < B - prev
  · rw [if_pos h1]; intro h; cases h
  · rw [if_neg h1]
    by_cases h2 : B + es.length < prev ∨ ((termAt B T es prev).2 = true ∧ (termAt B T es prev).1 ≠ term)
    · rw [if_pos h2]; intro h; cases h
    · rw [if_neg h2]
      have hpl : prev ≤ B + es.length := by apply Classical.byContradiction; intro hn; exact h2 (.inl (by omega))
      clear h2
      cases hf : (List.range ss.length).find? (misses B T es prev ss) with
      | none =>
        intro _
        have hall : ∀ i, i < ss.length → misses B T es prev ss i = false := fun i hi => by
          have := List.find?_eq_none.1 hf i (List.mem_range.2 hi)
          simpa using this
        have e1 : nowL B (B + es.length) es [] = es := by unfold nowL; rw [List.append_nil, List.take_of_length_le (by omega)]
        refine ⟨by simp, Nat.le_refl _, fun i hi hb => ?_, .inl ⟨rfl, rfl⟩, meet_slice (by simp) (Nat.le_refl _), fun e he => (by cases he), Nat.zero_le _⟩
        obtain ⟨q1, q2⟩ := meets_not (hall i hi) hb
        show termAt B T (nowL B (B + es.length) es []) _ = _
        rw [e1, termAt_of hb q1, show prev + i + 1 - B - 1 = prev + i - B by omega, q2]
      | some k =>
        intro _
        obtain ⟨hk, hkm, hj⟩ := List.find?_range_eq_some.1 hf
        have hkl : k < ss.length := List.mem_range.1 hkm
        have hbk : B < prev + k + 1 := by
          unfold misses at hk
          have := (Bool.and_eq_true_iff.1 hk).1
          simpa using this
        have hall : ∀ i, i < k → misses B T es prev ss i = false := fun i hi => by simpa using hj i hi
        have hhi : prev + k ≤ B + es.length := by
          rcases Nat.eq_zero_or_pos k with h0 | h0
          · omega
          · by_cases hb : B < prev + (k - 1) + 1
            · have := (meets_not (hall (k - 1) (by omega)) hb).1; omega
            · omega
        refine ⟨by show B ≤ prev + k; omega, hhi, fun i hi hb => ?_, .inr ⟨by show 0 < (ss.drop k).length; rw [List.length_drop]; omega, by show prev + k + (ss.drop k).length = _; rw [List.length_drop]; omega⟩, meet_slice (by show B ≤ prev + k; omega) hhi, fun e he => List.mem_of_mem_drop he, by show (ss.drop k).length ≤ _; rw [List.length_drop]; omega⟩
        show termAt B T (nowL B (prev + k) es (ss.drop k)) _ = _
        have hlen := nowL_len (B := B) (keep := prev + k) (es := es) (add := ss.drop k) hhi (by omega)
        rw [List.length_drop] at hlen
        rw [termAt_of hb (by omega)]
        have hget : ((nowL B (prev + k) es (ss.drop k)).getD (prev + i + 1 - B - 1) (0, [])).1 = (ss.getD i (0, [])).1 := by
          unfold nowL
          by_cases hik : i < k
          · obtain ⟨q1, q2⟩ := meets_not (hall i hik) hb
            rw [← q2, List.getD_eq_getElem?_getD, List.getD_eq_getElem?_getD, List.getElem?_append_left (by rw [List.length_take]; omega), List.getElem?_take, if_pos (by omega), show prev + i + 1 - B - 1 = prev + i - B by omega]
          · rw [List.getD_eq_getElem?_getD, List.getD_eq_getElem?_getD, List.getElem?_append_right (by rw [List.length_take]; omega), List.length_take, List.getElem?_drop, show k + (prev + i + 1 - B - 1 - min (prev + k - B) es.length) = i by omega]
        rw [hget]
theorem meet_err {B T : Nat} {es : List Ent} {prev term : Nat} {ss : List Ent} :
    (meetR B T es prev term ss).2.2 ≠ 0 → ((meetR B T es prev term ss).2.2 = 240 ∨ (meetR B T es prev term ss).2.2 = 241) ∧ (meetR B T es prev term ss).1 = 0 ∧ (meetR B T es prev term ss).2.1 = [] := by
  unfold meetR
  split
  · intro _; exact ⟨.inl rfl, rfl, rfl⟩
  · split
    · intro _; exact ⟨.inr rfl, rfl, rfl⟩
    · split
      · intro h; exact absurd rfl h
      · intro h; exact absurd rfl h
end Go.Proofs.Yteellfgiejnigaa
/- The law of TrackMeets. -/
namespace Go.Proofs.Yteellfgiejnigaa
open Go.ChangeShapes Go.WideShapes Go.ChangeAt Go.RowKit
set_option linter.unusedVariables false

theorem ops2 {w : World} {v1 v2 : Value} {es ss : List Ent} {S1 S2 : Foot} (h1 : EsR w S1 v1 es) (h2 : EsR w S2 v2 ss) : OpsL (w.alloc (Obj.cells #[.int .i64 0, .int .i64 0, .int .u64 0, .int .u64 0, v1, .int .i64 0, .int .i64 0, .int .u64 0, .int .u64 0, v2] 39)) (.slice (some ⟨w.heap.size, 0, none⟩) 2 2) [es, ss] := by
  refine ⟨_, 2, rfl, fun _ => ⟨w.heap.size, 0, rfl, fun i hi => ?_⟩⟩
  match i, hi with
  | 0, _ => exact ⟨v1, S1, by rw [cell_of_row _ _ _ _ _ _ (heap_alloc_new w _)]; rfl, h1.keeps ((Keeps.refl w).alloc _)⟩
  | 1, _ => exact ⟨v2, S2, by rw [cell_of_row _ _ _ _ _ _ (heap_alloc_new w _)]; rfl, h2.keeps ((Keeps.refl w).alloc _)⟩
theorem tame2_w (v1 v2 : Value) (es ss : List Ent) (w : World) (S1 S2 : Foot) (h1 : EsR w S1 v1 es) (h2 : EsR w S2 v2 ss) (k1 : ∀ e ∈ es, e.2.length ≤ 140737488351232) (k2 : ∀ e ∈ ss, e.2.length ≤ 140737488351232) :
    Calls Try.prog 21 #[.slice (some ⟨w.heap.size, 0, none⟩) 2 2] (w.alloc (Obj.cells #[.int .i64 0, .int .i64 0, .int .u64 0, .int .u64 0, v1, .int .i64 0, .int .i64 0, .int .u64 0, .int .u64 0, v2] 39)) fun r w' => r = .returned (.bool (tameR [es, ss])) ∧ Below (w.alloc (Obj.cells #[.int .i64 0, .int .i64 0, .int .u64 0, .int .u64 0, v1, .int .i64 0, .int .i64 0, .int .u64 0, .int .u64 0, v2] 39)).heap.size (w.alloc (Obj.cells #[.int .i64 0, .int .i64 0, .int .u64 0, .int .u64 0, v1, .int .i64 0, .int .i64 0, .int .u64 0, .int .u64 0, v2] 39)) w' :=
  tame_w _ _ _ (ops2 h1 h2) fun x hx e he => by
    simp only [List.mem_cons, List.not_mem_nil, or_false] at hx
    rcases hx with rfl | rfl
    · exact Nat.le_trans (k1 e he) (by decide)
    · exact Nat.le_trans (k2 e he) (by decide)
theorem tame2_b (w : World) (v1 v2 : Value) : Below w.heap.size w (w.alloc (Obj.cells #[.int .i64 0, .int .i64 0, .int .u64 0, .int .u64 0, v1, .int .i64 0, .int .i64 0, .int .u64 0, .int .u64 0, v2] 39)) := (Below.refl w.heap.size w).alloc (Nat.le_refl _) _
set_option maxRecDepth 100000 in
set_option maxHeartbeats 1600000 in
theorem meets_many1_w (B T prev at' : Nat) (v1 v2 : Value) (es ss : List Ent) (w : World) (S1 S2 : Foot) (h1 : EsR w S1 v1 es) (h2 : EsR w S2 v2 ss) (hl : 30 < es.length) :
    Calls Try.prog 5 #[.int .u64 (B : Int), .int .u64 (T : Int), v1, v2, .int .u64 (prev : Int), .int .u64 (at' : Int)] w fun r w' => r = .returned (.bool true) ∧ Below w.heap.size w w' := by
  obtain ⟨p1, c1, rfl⟩ : ∃ p c, v1 = .slice p es.length c := by obtain ⟨p, c, xs, e, _⟩ := h1; exact ⟨p, c, e⟩
  obtain ⟨p2, c2, rfl⟩ : ∃ p c, v2 = .slice p ss.length c := by obtain ⟨p, c, xs, e, _⟩ := h2; exact ⟨p, c, e⟩
  clear h1 h2
  generalize es.length = n1 at *
  generalize ss.length = n2 at *
  have d1 : decide (30 < (n1 : Int)) = true := by simp; omega
  go_enter Try.func5, Try.ntmps5
  go_wp2_with (first
    | (go_at_call 15; refine (known24_w _).mono ?_; rintro r w13 ⟨rfl, hB⟩; have HB13 := Lib.hid ((Below.refl w.heap.size w).trans hB); clear hB))
  go_ret
  exact ⟨rfl, HB13.out⟩
set_option maxRecDepth 100000 in
set_option maxHeartbeats 1600000 in
theorem meets_many2_w (B T prev at' : Nat) (v1 v2 : Value) (es ss : List Ent) (w : World) (S1 S2 : Foot) (h1 : EsR w S1 v1 es) (h2 : EsR w S2 v2 ss) (hl1 : es.length ≤ 30) (hl : 30 < ss.length) :
    Calls Try.prog 5 #[.int .u64 (B : Int), .int .u64 (T : Int), v1, v2, .int .u64 (prev : Int), .int .u64 (at' : Int)] w fun r w' => r = .returned (.bool true) ∧ Below w.heap.size w w' := by
  obtain ⟨p1, c1, rfl⟩ : ∃ p c, v1 = .slice p es.length c := by obtain ⟨p, c, xs, e, _⟩ := h1; exact ⟨p, c, e⟩
  obtain ⟨p2, c2, rfl⟩ : ∃ p c, v2 = .slice p ss.length c := by obtain ⟨p, c, xs, e, _⟩ := h2; exact ⟨p, c, e⟩
  clear h1 h2
  generalize es.length = n1 at *
  generalize ss.length = n2 at *
  have d1 : decide (30 < (n1 : Int)) = false := by simp; omega
  have d2 : decide (30 < (n2 : Int)) = true := by simp; omega
  go_enter Try.func5, Try.ntmps5
  go_wp2_with (first
    | (go_at_call 15; refine (known24_w _).mono ?_; rintro r w13 ⟨rfl, hB⟩; have HB13 := Lib.hid ((Below.refl w.heap.size w).trans hB); clear hB))
  go_ret
  exact ⟨rfl, HB13.out⟩
set_option maxRecDepth 100000 in
set_option maxHeartbeats 1600000 in
theorem meets_wild_w (B T prev at' : Nat) (v1 v2 : Value) (es ss : List Ent) (w : World) (S1 S2 : Foot) (h1 : EsR w S1 v1 es) (h2 : EsR w S2 v2 ss) (hl1 : es.length ≤ 30) (hl2 : ss.length ≤ 30) (k1 : ∀ e ∈ es, e.2.length ≤ 140737488351232) (k2 : ∀ e ∈ ss, e.2.length ≤ 140737488351232) (ht : tameR [es, ss] = false) :
    Calls Try.prog 5 #[.int .u64 (B : Int), .int .u64 (T : Int), v1, v2, .int .u64 (prev : Int), .int .u64 (at' : Int)] w fun r w' => r = .returned (.bool true) ∧ Below w.heap.size w w' := by
  obtain ⟨p1, c1, rfl⟩ : ∃ p c, v1 = .slice p es.length c := by obtain ⟨p, c, xs, e, _⟩ := h1; exact ⟨p, c, e⟩
  obtain ⟨p2, c2, rfl⟩ : ∃ p c, v2 = .slice p ss.length c := by obtain ⟨p, c, xs, e, _⟩ := h2; exact ⟨p, c, e⟩
  have d1 : decide (30 < (es.length : Int)) = false := by simp; omega
  have d2 : decide (30 < (ss.length : Int)) = false := by simp; omega
  have HTm := Lib.hid (tame2_w _ _ es ss w S1 S2 h1 h2 k1 k2)
  have HB1 := Lib.hid (tame2_b w (.slice p1 es.length c1) (.slice p2 ss.length c2))
  rw [ht] at HTm
  clear h1 h2 k1 k2
  generalize es.length = n1 at *
  generalize ss.length = n2 at *
  go_enter Try.func5, Try.ntmps5
  go_wp2_with (first
    | (go_at_call 21; refine (HTm.out).mono ?_; rintro r w2 ⟨rfl, hB⟩; have HB2 := Lib.hid (HB1.out.trans (hB.mono HB1.out.size)); clear hB HTm)
    | (go_at_call 15; refine (known24_w _).mono ?_; rintro r w13 ⟨rfl, hB⟩; have HB13 := Lib.hid (HB2.out.trans (hB.mono HB2.out.size)); clear hB))
  go_ret
  exact ⟨rfl, HB13.out⟩
set_option maxRecDepth 100000 in
set_option maxHeartbeats 1600000 in
theorem meets_high1_w (B T prev at' : Nat) (v1 v2 : Value) (es ss : List Ent) (w : World) (S1 S2 : Foot) (h1 : EsR w S1 v1 es) (h2 : EsR w S2 v2 ss) (hl1 : es.length ≤ 30) (hl2 : ss.length ≤ 30) (k1 : ∀ e ∈ es, e.2.length ≤ 140737488351232) (k2 : ∀ e ∈ ss, e.2.length ≤ 140737488351232) (ht : tameR [es, ss] = true) (hb : 9223372036854775808 < B) :
    Calls Try.prog 5 #[.int .u64 (B : Int), .int .u64 (T : Int), v1, v2, .int .u64 (prev : Int), .int .u64 (at' : Int)] w fun r w' => r = .returned (.bool true) ∧ Below w.heap.size w w' := by
  obtain ⟨p1, c1, rfl⟩ : ∃ p c, v1 = .slice p es.length c := by obtain ⟨p, c, xs, e, _⟩ := h1; exact ⟨p, c, e⟩
  obtain ⟨p2, c2, rfl⟩ : ∃ p c, v2 = .slice p ss.length c := by obtain ⟨p, c, xs, e, _⟩ := h2; exact ⟨p, c, e⟩
  have d1 : decide (30 < (es.length : Int)) = false := by simp; omega
  have d2 : decide (30 < (ss.length : Int)) = false := by simp; omega
  have HTm := Lib.hid (tame2_w _ _ es ss w S1 S2 h1 h2 k1 k2)
  have HB1 := Lib.hid (tame2_b w (.slice p1 es.length c1) (.slice p2 ss.length c2))
  rw [ht] at HTm
  have d3 : decide (9223372036854775808 < (B : Int)) = true := by simp; omega
  clear h1 h2 k1 k2
  generalize es.length = n1 at *
  generalize ss.length = n2 at *
  go_enter Try.func5, Try.ntmps5
  go_wp2_with (first
    | (go_at_call 21; refine (HTm.out).mono ?_; rintro r w2 ⟨rfl, hB⟩; have HB2 := Lib.hid (HB1.out.trans (hB.mono HB1.out.size)); clear hB HTm)
    | (go_at_call 15; refine (known24_w _).mono ?_; rintro r w13 ⟨rfl, hB⟩; have HB13 := Lib.hid (HB2.out.trans (hB.mono HB2.out.size)); clear hB))
  go_ret
  exact ⟨rfl, HB13.out⟩
set_option maxRecDepth 100000 in
set_option maxHeartbeats 1600000 in
theorem meets_high2_w (B T prev at' : Nat) (v1 v2 : Value) (es ss : List Ent) (w : World) (S1 S2 : Foot) (h1 : EsR w S1 v1 es) (h2 : EsR w S2 v2 ss) (hl1 : es.length ≤ 30) (hl2 : ss.length ≤ 30) (k1 : ∀ e ∈ es, e.2.length ≤ 140737488351232) (k2 : ∀ e ∈ ss, e.2.length ≤ 140737488351232) (ht : tameR [es, ss] = true) (hb : B ≤ 9223372036854775808) (hp : 9223372036854775808 < prev) :
    Calls Try.prog 5 #[.int .u64 (B : Int), .int .u64 (T : Int), v1, v2, .int .u64 (prev : Int), .int .u64 (at' : Int)] w fun r w' => r = .returned (.bool true) ∧ Below w.heap.size w w' := by
  obtain ⟨p1, c1, rfl⟩ : ∃ p c, v1 = .slice p es.length c := by obtain ⟨p, c, xs, e, _⟩ := h1; exact ⟨p, c, e⟩
  obtain ⟨p2, c2, rfl⟩ : ∃ p c, v2 = .slice p ss.length c := by obtain ⟨p, c, xs, e, _⟩ := h2; exact ⟨p, c, e⟩
  have d1 : decide (30 < (es.length : Int)) = false := by simp; omega
  have d2 : decide (30 < (ss.length : Int)) = false := by simp; omega
  have HTm := Lib.hid (tame2_w _ _ es ss w S1 S2 h1 h2 k1 k2)
  have HB1 := Lib.hid (tame2_b w (.slice p1 es.length c1) (.slice p2 ss.length c2))
  rw [ht] at HTm
  have d3 : decide (9223372036854775808 < (B : Int)) = false := by simp; omega
  have d4 : decide (9223372036854775808 < (prev : Int)) = true := by simp; omega
  clear h1 h2 k1 k2
  generalize es.length = n1 at *
  generalize ss.length = n2 at *
  go_enter Try.func5, Try.ntmps5
  go_wp2_with (first
    | (go_at_call 21; refine (HTm.out).mono ?_; rintro r w2 ⟨rfl, hB⟩; have HB2 := Lib.hid (HB1.out.trans (hB.mono HB1.out.size)); clear hB HTm)
    | (go_at_call 15; refine (known24_w _).mono ?_; rintro r w13 ⟨rfl, hB⟩; have HB13 := Lib.hid (HB2.out.trans (hB.mono HB2.out.size)); clear hB))
  go_ret
  exact ⟨rfl, HB13.out⟩
end Go.Proofs.Yteellfgiejnigaa
/- The law of TrackMeets: the calls that are looked at. -/
namespace Go.Proofs.Yteellfgiejnigaa
open Go.ChangeShapes Go.WideShapes Go.ChangeAt Go.RowKit
set_option linter.unusedVariables false

theorem EsR.touch {S R : Foot} {w w' : World} {v : Value} {es : List Ent} (h : EsR w R v es) (t : Touch S w w') (hd : ∀ b, b < w.heap.size → R b → ¬ S b) : EsR w' R v es :=
  ((h.mono (S' := fun b => R b ∧ b < w.heap.size) fun b hb k => ⟨k, hb⟩).frame (t.same (fun b hb => hb.2) fun b hb => hd b hb.2 hb.1)).mono fun b _ hb => hb.1
theorem EsG.touch {S R : Foot} {w w' : World} {e : TypeId} {v : Value} {es : List Ent} (h : EsG w R e v es) (t : Touch S w w') (hd : ∀ b, b < w.heap.size → R b → ¬ S b) : EsG w' R e v es :=
  ((h.mono (S' := fun b => R b ∧ b < w.heap.size) fun b hb k => ⟨k, hb⟩).frame (t.same (fun b hb => hb.2) fun b hb => hd b hb.2 hb.1)).mono fun b _ hb => hb.1
theorem EsR.len_form {w : World} {S : Foot} {v : Value} {es : List Ent} (h : EsR w S v es) : ∃ p c, v = .slice p es.length c := by obtain ⟨p, c, xs, e, _⟩ := h; exact ⟨p, c, e⟩
theorem EsR.hi {w : World} {S : Foot} {p : Option Addr} {n c : Nat} {es : List Ent} (h : EsR w S (.slice p n c) es) {m : Nat} (hm : m ≤ es.length) : EsR w S (.slice p m c) (es.take m) := by
  obtain ⟨p', c', xs, e, h1, h2, h3, h4, h5⟩ := h
  cases e
  have hl : (es.take m).length = m := by rw [List.length_take]; omega
  refine ⟨p, c, xs.take (m * 2), by rw [hl], by omega, h2, h3, h4.take m, fun hne => ?_⟩
  obtain ⟨b, off, hp, hb, hlt, hc⟩ := h5 (by intro e; subst e; simp at hne)
  refine ⟨b, off, hp, hb, hlt, fun j u hu => ?_⟩
  rw [List.getElem?_take] at hu
  split at hu
  · exact hc j u hu
  · cases hu
theorem run_slice_hi_u (t e : TypeId) (ht : Try.prog.underlying t = some (.slice e)) (sz : Nat) (hsz : (Try.prog.info? e).map (·.size) = some sz) (p : Option Addr) (len cap : Nat) (n : Nat) (hn : n ≤ cap) (w : World) :
    (Instr.sliceAt t (.slice p len cap) none (some (.int .u64 (n : Int))) none).run Try.prog w = .ok (.slice p n cap) w := by
  obtain ⟨i, hi, hsi⟩ := Option.map_eq_some_iff.1 hsz
  simp [Instr.sliceAt, Instr.slice, Instr.sliceBounds, Instr.sliceBound, asIntOf, Sem.run_bind, run_underlying ht, sizeOf, typeInfo, hi, hn, Addr_add_zero]
theorem slice_all {B B1 : Nat} {es : List Ent} (h : B1 = B + 1) (hn : es.length ≤ 100) : sliceR B es B1 100 = es := by
  unfold sliceR
  subst h
  by_cases h0 : es.length = 0
  · rw [List.eq_nil_of_length_eq_zero h0]; simp
  · rw [if_neg (by omega), show B + 1 - B - 1 = 0 by omega, List.drop_zero]
    exact List.take_of_length_le (by show es.length ≤ 100; exact hn)

set_option maxRecDepth 100000 in
set_option maxHeartbeats 1600000 in
theorem meets_old_w (B T prev at' : Nat) (v1 v2 : Value) (es ss : List Ent) (w : World) (S1 S2 : Foot) (h1 : EsR w S1 v1 es) (h2 : EsR w S2 v2 ss) (hl1 : es.length ≤ 30) (hl2 : ss.length ≤ 30) (k1 : ∀ e ∈ es, e.2.length ≤ 140737488351232) (k2 : ∀ e ∈ ss, e.2.length ≤ 140737488351232)
    (ht : tameR [es, ss] = true) (hb : B ≤ 9223372036854775808) (hp : prev ≤ 9223372036854775808) (hT : T < 2 ^ 64) (hat : at' < 2 ^ 64) (hm : meetR B T es prev at' ss = (0, [], 240)) :
    Calls Try.prog 5 #[.int .u64 (B : Int), .int .u64 (T : Int), v1, v2, .int .u64 (prev : Int), .int .u64 (at' : Int)] w fun r w' => r = .returned (.bool true) ∧ Below w.heap.size w w' := by
  obtain ⟨p1, c1, rfl⟩ := h1.len_form
  obtain ⟨p2, c2, rfl⟩ := h2.len_form
  have d1 : decide (30 < (es.length : Int)) = false := by simp; omega
  have d2 : decide (30 < (ss.length : Int)) = false := by simp; omega
  have d3 : decide (9223372036854775808 < (B : Int)) = false := by simp; omega
  have d4 : decide (9223372036854775808 < (prev : Int)) = false := by simp; omega
  have HTm := Lib.hid (tame2_w _ _ es ss w S1 S2 h1 h2 k1 k2)
  have HB1 := Lib.hid (tame2_b w (.slice p1 es.length c1) (.slice p2 ss.length c2))
  rw [ht] at HTm
  have ht5 : osum [es, ss] < 50000 := by unfold tameR at ht; simp only [decide_eq_true_eq] at ht; exact ht.2.2
  have q1 : ∀ e ∈ es, e.2.length ≤ 1000000 := fun e he => by have := le_dsum es e he; simp only [osum] at ht5; omega
  have q2 : ∀ e ∈ ss, e.2.length ≤ 1000000 := fun e he => by have := le_dsum ss e he; simp only [osum] at ht5; omega
  have Hq1 := Lib.hid q1
  have Hq2 := Lib.hid q2
  have H1 := Lib.hid (h1.mono (S' := fun b => b < w.heap.size) fun b hb _ => hb)
  have H2 := Lib.hid (h2.mono (S' := fun b => b < w.heap.size) fun b hb _ => hb)
  have Htk := Lib.hid (show es.take (18446744073709551615 - B) = es from List.take_of_length_le (by omega))
  have HM := Lib.hid hm
  clear h1 h2 k1 k2 ht ht5 q1 q2 hm
  go_enter Try.func5, Try.ntmps5
  go_wp2_with (first
    | (go_at_call 21; refine (HTm.out).mono ?_; rintro r w2 ⟨rfl, hB⟩; have HB2 := Lib.hid (HB1.out.trans (hB.mono HB1.out.size)); clear hB HTm HB1)
    | (go_at_call 22; refine (new_w (fun b => b < w.heap.size) B T _ es w2 (by omega) (by omega) (H1.out.keeps HB2.out.block) (by omega) Hq1.out).mono ?_; rintro r w3 ⟨rfl, ⟨v3, ht3⟩, hB⟩; rw [Htk.out] at ht3; have hs2 := HB2.out.size; have hs3 : w2.heap.size < w3.heap.size := ht3.lt; have HT3 := Lib.hid (ht3.mono (S' := fun b => w.heap.size ≤ b ∧ b < w3.heap.size) fun b hlt hb => ⟨Nat.le_trans hs2 hb, hlt⟩); have HB3 := Lib.hid (HB2.out.trans (hB.mono HB2.out.size)); clear hB ht3)
    | (go_at_call 23; refine (tip_w _ _ B T _ es _ HT3.out (by omega)).mono ?_; rintro r w4 ⟨rfl, hB⟩; have hs4 := hB.size; have HT4 := Lib.hid (HT3.out.keeps hB.block); have HB4 := Lib.hid (HB3.out.trans (hB.mono HB3.out.size)); clear hB HT3)
    | (go_at_call 24; refine (meet_w _ (fun b => b < w.heap.size) _ B T prev at' _ _ es ss _ HT4.out (H2.out.keeps HB4.out.block) (by omega) (by omega) (by omega) Hq2.out).mono ?_; rintro r w5 ⟨av, rfl, ha, hB⟩; rw [HM.out] at ha ⊢; obtain ⟨p3, c3, rfl⟩ := ha.len_form; have hs5 := hB.size; have HA5 := Lib.hid (ha.mono (S' := fun b => w3.heap.size ≤ b) fun b _ hb => Nat.le_trans hs4 hb); have HT5 := Lib.hid (HT4.out.keeps hB.block); have HB5 := Lib.hid (HB4.out.trans (hB.mono HB4.out.size)); clear hB ha HT4)
    | (go_at_call 15; refine (known24_w _).mono ?_; rintro r w13 ⟨rfl, hB⟩; have HB13 := Lib.hid (HB5.out.trans (hB.mono HB5.out.size)); clear hB))
  go_ret
  exact ⟨rfl, HB13.out⟩
set_option maxRecDepth 100000 in
set_option maxHeartbeats 1600000 in
theorem meets_gap_w (B T prev at' : Nat) (v1 v2 : Value) (es ss : List Ent) (w : World) (S1 S2 : Foot) (h1 : EsR w S1 v1 es) (h2 : EsR w S2 v2 ss) (hl1 : es.length ≤ 30) (hl2 : ss.length ≤ 30) (k1 : ∀ e ∈ es, e.2.length ≤ 140737488351232) (k2 : ∀ e ∈ ss, e.2.length ≤ 140737488351232)
    (ht : tameR [es, ss] = true) (hb : B ≤ 9223372036854775808) (hp : prev ≤ 9223372036854775808) (hT : T < 2 ^ 64) (hat : at' < 2 ^ 64) (hm : meetR B T es prev at' ss = (0, [], 241)) :
    Calls Try.prog 5 #[.int .u64 (B : Int), .int .u64 (T : Int), v1, v2, .int .u64 (prev : Int), .int .u64 (at' : Int)] w fun r w' => r = .returned (.bool true) ∧ Below w.heap.size w w' := by
  obtain ⟨p1, c1, rfl⟩ := h1.len_form
  obtain ⟨p2, c2, rfl⟩ := h2.len_form
  have d1 : decide (30 < (es.length : Int)) = false := by simp; omega
  have d2 : decide (30 < (ss.length : Int)) = false := by simp; omega
  have d3 : decide (9223372036854775808 < (B : Int)) = false := by simp; omega
  have d4 : decide (9223372036854775808 < (prev : Int)) = false := by simp; omega
  have HTm := Lib.hid (tame2_w _ _ es ss w S1 S2 h1 h2 k1 k2)
  have HB1 := Lib.hid (tame2_b w (.slice p1 es.length c1) (.slice p2 ss.length c2))
  rw [ht] at HTm
  have ht5 : osum [es, ss] < 50000 := by unfold tameR at ht; simp only [decide_eq_true_eq] at ht; exact ht.2.2
  have q1 : ∀ e ∈ es, e.2.length ≤ 1000000 := fun e he => by have := le_dsum es e he; simp only [osum] at ht5; omega
  have q2 : ∀ e ∈ ss, e.2.length ≤ 1000000 := fun e he => by have := le_dsum ss e he; simp only [osum] at ht5; omega
  have Hq1 := Lib.hid q1
  have Hq2 := Lib.hid q2
  have H1 := Lib.hid (h1.mono (S' := fun b => b < w.heap.size) fun b hb _ => hb)
  have H2 := Lib.hid (h2.mono (S' := fun b => b < w.heap.size) fun b hb _ => hb)
  have Htk := Lib.hid (show es.take (18446744073709551615 - B) = es from List.take_of_length_le (by omega))
  have HM := Lib.hid hm
  clear h1 h2 k1 k2 ht ht5 q1 q2 hm
  go_enter Try.func5, Try.ntmps5
  go_wp2_with (first
    | (go_at_call 21; refine (HTm.out).mono ?_; rintro r w2 ⟨rfl, hB⟩; have HB2 := Lib.hid (HB1.out.trans (hB.mono HB1.out.size)); clear hB HTm HB1)
    | (go_at_call 22; refine (new_w (fun b => b < w.heap.size) B T _ es w2 (by omega) (by omega) (H1.out.keeps HB2.out.block) (by omega) Hq1.out).mono ?_; rintro r w3 ⟨rfl, ⟨v3, ht3⟩, hB⟩; rw [Htk.out] at ht3; have hs2 := HB2.out.size; have hs3 : w2.heap.size < w3.heap.size := ht3.lt; have HT3 := Lib.hid (ht3.mono (S' := fun b => w.heap.size ≤ b ∧ b < w3.heap.size) fun b hlt hb => ⟨Nat.le_trans hs2 hb, hlt⟩); have HB3 := Lib.hid (HB2.out.trans (hB.mono HB2.out.size)); clear hB ht3)
    | (go_at_call 23; refine (tip_w _ _ B T _ es _ HT3.out (by omega)).mono ?_; rintro r w4 ⟨rfl, hB⟩; have hs4 := hB.size; have HT4 := Lib.hid (HT3.out.keeps hB.block); have HB4 := Lib.hid (HB3.out.trans (hB.mono HB3.out.size)); clear hB HT3)
    | (go_at_call 24; refine (meet_w _ (fun b => b < w.heap.size) _ B T prev at' _ _ es ss _ HT4.out (H2.out.keeps HB4.out.block) (by omega) (by omega) (by omega) Hq2.out).mono ?_; rintro r w5 ⟨av, rfl, ha, hB⟩; rw [HM.out] at ha ⊢; obtain ⟨p3, c3, rfl⟩ := ha.len_form; have hs5 := hB.size; have HA5 := Lib.hid (ha.mono (S' := fun b => w3.heap.size ≤ b) fun b _ hb => Nat.le_trans hs4 hb); have HT5 := Lib.hid (HT4.out.keeps hB.block); have HB5 := Lib.hid (HB4.out.trans (hB.mono HB4.out.size)); clear hB ha HT4)
    | (go_at_call 15; refine (known24_w _).mono ?_; rintro r w13 ⟨rfl, hB⟩; have HB13 := Lib.hid (HB5.out.trans (hB.mono HB5.out.size)); clear hB))
  go_ret
  exact ⟨rfl, HB13.out⟩
end Go.Proofs.Yteellfgiejnigaa
