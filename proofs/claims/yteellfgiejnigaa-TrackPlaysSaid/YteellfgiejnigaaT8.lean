/- Walks of 'of', and what is known of the small track. -/
import Derived.Test.YteellfgiejnigaaT7
namespace Go.Proofs.Yteellfgiejnigaa
open Go.ChangeShapes Go.WideShapes Go.ChangeAt Go.RowKit
set_option linter.unusedVariables false

section
variable {ops : Array Oper} {rest : List Oper} {o : Oper} {a : Act} {w : World} {Q : Exit → Act → World → Prop}
theorem wpList_append_esg (hgd : o.guard = none) (s x : Operand) (ho : o.op = .call { callee := .builtin .append, args := #[s, x], argTypes := #[28, 28] }) {S S' : Foot}
    {v : Value} {es : List Ent} (hs : a.eval s = v) (hown : EsG w S 53 v es) {p : Option Addr} {c : Nat} {ys : List Value} {fs : List Ent} (hx : a.eval x = .slice p fs.length c) (hys : EsC w (fun b => S' b ∧ v.ownBlock ≠ some b) ys fs)
    (hsrc : (p = none ∧ fs = [] ∧ c = 0) ∨ ∃ a, p = some a ∧ ∀ j u, ys[j]? = some u → w.cell? (a.add j) = some u)
    (hlen : es.length + fs.length ≤ 1000000) (hS : ∀ b, S b → S' b) (hnew : S' w.heap.size)
    (h : ∀ p n c w', EsG w' S' 53 (.slice p n c) (es ++ fs) → w.grownBy w' v.ownBlock → wpList Try.prog ops Q rest (a.put o.dst (.slice p n c)) w') : wpList Try.prog ops Q (o :: rest) a w := by
  refine wpList_plain hgd fun _ hK => ?_
  obtain ⟨v', w', hr, h2, h3, _, _⟩ := run_append_esg (P := Try.prog) (ty := o.type) helE hown hys hsrc (by unfold maxLen; omega) (by omega) hS hnew
  obtain ⟨p2, c2, rfl⟩ := h2.form
  unfold Oper.wp execOp
  simp only [ho, resolve, invoke, builtin, Sem.run_bind, Sem.run_pure, Result.andThen_ok, List.map_toArray, List.map_cons, List.map_nil, hs, hx, hr]
  exact hK _ _ (h p2 _ c2 w' h2 h3)
end

/-- The value reads as these numbers. -/
def RdN (w : World) (v : Value) (ts : List Nat) : Prop := ∃ b, v = .slice (some ⟨b, 0, none⟩) ts.length ts.length ∧ b < w.heap.size ∧ ∀ i, i < ts.length → w.cell? ⟨b, i, none⟩ = some (.int .u64 ((ts.getD i 0 : Nat) : Int)) ∧ ts.getD i 0 < 2 ^ 64
def bare (ts : List Nat) : List Ent := ts.map fun t => (t, [])

set_option maxRecDepth 100000 in
theorem of_w (ts : List Nat) (sv : Value) (w : World) (h : RdN w sv ts) (hn : ts.length ≤ 1000) :
    Calls Try.prog 40 #[sv] w fun r w' => ∃ v, r = .returned v ∧ EsG w' (fun b => w.heap.size ≤ b) 53 v (bare ts) ∧ Below w.heap.size w w' := by
  obtain ⟨b, rfl, hb, hc⟩ := h
  have Hc := Lib.hid hc
  clear hc
  go_enter Try.func40, Try.ntmps40
  go_wp2
  go_loopw [3, 4] (fun v i wr => ∃ (k : Nat) (p : Option Addr) (n c : Nat), k ≤ ts.length ∧ i = .int .i64 (k : Int) ∧ v = .slice p n c ∧ Hid (EsG wr (fun b => w.heap.size ≤ b) 53 (.slice p n c) (bare (ts.take k))) ∧ Hid (Below w.heap.size w wr)) (fun _ i _ => ts.length - (intOf i).toNat)
  case atStart => exact ⟨0, none, 0, 0, Nat.zero_le _, rfl, rfl, Lib.hid (.inl ⟨rfl, rfl⟩), Lib.hid (Below.refl _ _)⟩
  case round =>
    obtain ⟨k, p, n, c, hk, rfl, rfl, HE, HB⟩ := hrel
    by_cases hlt : k < ts.length
    · obtain ⟨hck, htl⟩ := Hc.out k hlt
      have hck2 := HB.out.cell (p := ⟨b, k, none⟩) hb
      rw [hck] at hck2
      have Htl := Lib.hid htl
      have Hes := Lib.hid (show bare (ts.take (k + 1)) = bare (ts.take k) ++ [(ts.getD k 0, [])] by
        unfold bare; rw [List.take_succ_eq_append_getElem hlt, List.map_append]; simp [List.getD, List.getElem?_eq_getElem hlt])
      have hlen : (bare (ts.take k)).length ≤ 1000 := by unfold bare; rw [List.length_map, List.length_take]; omega
      have HN := Lib.hid (EntAt.new wr (ts.getD k 0) (.slice none 0 0))
      generalize ts.getD k 0 = t at *
      have HEa := Lib.hid (HE.out.keeps ((Keeps.refl wr).alloc (.cells #[.int .u64 (t : Int), .slice none 0 0] 53)))
      clear hck htl
      go_wp2_with (refine wpList_append_esg rfl (.tmp 11) (.tmp 17) rfl (S' := fun b => w.heap.size ≤ b) rfl HEa.out rfl (fs := [(t, [])]) (EsC.cons Htl.out ⟨(OB.nil _ 0 5).rd, (fun g e _ => by cases e), (fun g e _ => by cases e), (fun b off c e => by cases e)⟩ .nil) (.inr ⟨_, rfl, ent_cells HN.out⟩) (by simp; omega) (fun b hb => hb) (by have := HB.out.size; simp; omega) ?_; intro p2 n2 c2 w2 ho hg; have HE2 := Lib.hid ho; have HB2 := Lib.hid ((HB.out.alloc HB.out.size (.cells #[.int .u64 (t : Int), .slice none 0 0] 53)).grown hg (by have := HB.out.size; simp; omega) (fun g e => (HEa.out.foot g e).1)); clear ho hg)
      go_roundw
      case rel => exact ⟨k + 1, p2, n2, c2, by omega, by go_num, rfl, by rw [Hes.out]; exact HE2, HB2⟩
      case measure => simp [intOf]; omega
    · have hk2 : k = ts.length := by omega
      go_wp2
      go_ret
      have h1 := HE.out
      rw [hk2, List.take_length] at h1
      exact ⟨_, rfl, h1, HB.out⟩

theorem rdN_new (w : World) (cs : Array Value) (ts : List Nat) (h : ∀ i, i < ts.length → cs[i]? = some (.int .u64 ((ts.getD i 0 : Nat) : Int)) ∧ ts.getD i 0 < 2 ^ 64) : RdN (w.alloc (.cells cs 22)) (.slice (some ⟨w.heap.size, 0, none⟩) ts.length ts.length) ts :=
  ⟨w.heap.size, rfl, by simp, fun i hi => ⟨by rw [cell_of_row _ _ _ _ _ _ (heap_alloc_new w _)]; exact (h i hi).1, (h i hi).2⟩⟩
theorem bare_le (ts : List Nat) : ∀ e ∈ bare ts, e.2.length ≤ 1000000 := fun e he => by
  unfold bare at he
  obtain ⟨t, _, rfl⟩ := List.mem_map.1 he
  exact Nat.zero_le _
set_option maxRecDepth 100000 in
theorem new21_w (R : Foot) (v : Value) (w : World) (h : EsR w R v (bare [1, 2, 2])) :
    Calls Try.prog 22 #[.int .u64 2, .int .u64 1, v] w fun r w' => r = .returned (.pointer (some ⟨w.heap.size, 0, none⟩)) ∧ (∃ v, TkAt w' (fun b => w.heap.size ≤ b) w.heap.size 2 1 v (bare [1, 2, 2])) ∧ Below w.heap.size w w' :=
  new_w R 2 1 v (bare [1, 2, 2]) w (by decide) (by decide) h (by decide) (bare_le _)
theorem meet31_w (S R : Foot) (g : Nat) (v sv : Value) (w : World) (h : TkAt w S g 2 1 v (bare [1, 2, 2])) (hr : EsR w R sv (bare [2, 3])) :
    Calls Try.prog 24 #[.pointer (some ⟨g, 0, none⟩), .int .u64 3, .int .u64 1, sv] w fun r w' =>
      ∃ av, r = .returned (.tuple #[.int .u64 4, av, .int .i64 0]) ∧ EsR w' (fun b => w.heap.size ≤ b) av [(3, [])] ∧ Below w.heap.size w w' := by
  have hm : meetR 2 1 (bare [1, 2, 2]) 3 1 (bare [2, 3]) = (4, [(3, [])], 0) := by decide +kernel
  have h1 := meet_w S R g 2 1 3 1 v sv (bare [1, 2, 2]) (bare [2, 3]) w h hr (by decide) (by decide) (by decide) (bare_le _)
  rw [hm] at h1
  generalize bare [1, 2, 2] = x at *
  generalize bare [2, 3] = y at *
  exact h1
theorem tip52_w (S : Foot) (g : Nat) (v : Value) (w : World) (h : TkAt w S g 2 1 v (bare [1, 2, 2])) :
    Calls Try.prog 23 #[.pointer (some ⟨g, 0, none⟩)] w fun r w' => r = .returned (.tuple #[.int .u64 5, .int .u64 2]) ∧ Below w.heap.size w w' :=
  tip_w S g 2 1 v (bare [1, 2, 2]) w h (by decide)

set_option maxRecDepth 100000 in
set_option maxHeartbeats 1600000 in
theorem known24_w (w : World) : Calls Try.prog 15 #[] w fun r w' => r = .returned (.bool true) ∧ Below w.heap.size w w' := by
  have HN1 := Lib.hid (show RdN (w.alloc (.cells #[.int .u64 1, .int .u64 2, .int .u64 2] 22)) (.slice (some ⟨w.heap.size, 0, none⟩) 3 3) [1, 2, 2] from
    rdN_new w #[.int .u64 1, .int .u64 2, .int .u64 2] [1, 2, 2] (fun i hi => by match i, hi with
      | 0, _ => exact ⟨rfl, by decide⟩
      | 1, _ => exact ⟨rfl, by decide⟩
      | 2, _ => exact ⟨rfl, by decide⟩))
  have HB0 := Lib.hid ((Below.refl w.heap.size w).alloc (Nat.le_refl _) (.cells #[.int .u64 1, .int .u64 2, .int .u64 2] 22))
  have HN2 := Lib.hid (fun W : World => (show RdN (W.alloc (.cells #[.int .u64 2, .int .u64 3] 22)) (.slice (some ⟨W.heap.size, 0, none⟩) 2 2) [2, 3] from
    rdN_new W #[.int .u64 2, .int .u64 3] [2, 3] (fun i hi => by match i, hi with
      | 0, _ => exact ⟨rfl, by decide⟩
      | 1, _ => exact ⟨rfl, by decide⟩)))
  go_enter Try.func15, Try.ntmps15
  go_wp2_with (first
    | (go_at_call 40; first
        | (refine (of_w [1, 2, 2] _ _ HN1.out (by decide)).mono ?_; rintro r w1 ⟨v1, rfl, h1, hB⟩; have HE1 := Lib.hid h1; have HB1 := Lib.hid (HB0.out.trans (hB.mono HB0.out.size)); clear h1 hB HN1)
        | (refine (of_w [2, 3] _ _ (HN2.out w2) (by decide)).mono ?_; rintro r w3 ⟨v3, rfl, h3, hB⟩; have HE3 := Lib.hid h3.rd; have HT3 := Lib.hid (HT2.out.keeps hB.block); have HB3 := Lib.hid (HB2.out.trans (hB.mono HB2.out.size)); clear h3 hB))
    | (go_at_call 22; refine (new21_w _ v1 _ HE1.out.rd).mono ?_; rintro r w2 ⟨rfl, ⟨tv, ht⟩, hB⟩; have HT2 := Lib.hid (ht.keeps ((Keeps.refl w2).alloc (.cells #[.int .u64 2, .int .u64 3] 22))); have HB2 := Lib.hid ((HB1.out.trans (hB.mono HB1.out.size)).alloc (by have := HB1.out.size; have := hB.size; omega) (.cells #[.int .u64 2, .int .u64 3] 22)); clear ht hB)
    | (go_at_call 24; refine (meet31_w _ _ _ tv v3 _ HT3.out HE3.out).mono ?_; rintro r w4 ⟨av, rfl, h4, hB⟩; obtain ⟨b, off, c, rfl, hc⟩ := h4.term 0 (by decide); have Hc := Lib.hid hc; have hlt := block_lt_of_cell hc; have HT4 := Lib.hid (HT3.out.keeps hB.block); have HB4 := Lib.hid (HB3.out.trans (hB.mono HB3.out.size)); clear h4 hB hc)
    | (go_at_call 23; refine (tip52_w _ _ tv _ HT4.out).mono ?_; rintro r w5 ⟨rfl, hB⟩; have hcc : w5.cell? ⟨b, off, none⟩ = some (.int .u64 3) := (hB.cell (p := ⟨b, off, none⟩) hlt).trans Hc.out; have HB5 := Lib.hid (HB4.out.trans (hB.mono HB4.out.size)); clear hB))
  go_ret
  exact ⟨rfl, HB5.out⟩
end Go.Proofs.Yteellfgiejnigaa
