/- RaftSafe: T7. -/
import Derived.Test.YteellfgiejnigaaQtA00
import Derived.Test.YteellfgiejnigaaQtA01
import Derived.Deep.Cut
import Derived.Lib.BufferOwn
import Derived.WalkMore
namespace Go.Proofs.Yteellfgiejnigaa
open Go.ChangeShapes Go.WideShapes Go.ChangeAt Go.RowKit
set_option linter.unusedVariables false
attribute [local go_sem] Oper.semAt_some
def misses (B T : Nat) (es : List Ent) (prev : Nat) (ss : List Ent) (k : Nat) : Bool :=
 decide (B < prev + k + 1) && (!(termAt B T es (prev + k + 1)).2 || decide ((termAt B T es (prev + k + 1)).1 ≠ (ss.getD k (0, [])).1))
theorem find_none {p : Nat → Bool} {N : Nat} (h : ∀ j, j < N → p j = false) : (List.range N).find? p = none := by
 rw [List.find?_eq_none]
 intro x hx
 rw [h x (List.mem_range.1 hx)]
 simp
theorem find_first {p : Nat → Bool} {k : Nat} (h : ∀ j, j < k → p j = false) (hk : p k = true) : ∀ N, k < N → (List.range N).find? p = some k := by
 intro N
 induction N with
 | zero => intro h; omega
 | succ N ih =>
  intro hN
  rw [List.range_succ, List.find?_append]
  by_cases e : k = N
  · subst e
    rw [find_none h]
    simp [hk]
  · rw [ih (by omega)]; rfl
theorem all_succ {p : Nat → Bool} {k : Nat} (h : ∀ j, j < k → p j = false) (hk : p k = false) : ∀ j, j < k + 1 → p j = false := fun j hj => by
 rcases Nat.lt_succ_iff_lt_or_eq.1 hj with e | e
 · exact h j e
 · rw [e]; exact hk
def meetR (B T : Nat) (es : List Ent) (prev term : Nat) (ss : List Ent) : Nat × List Ent × Int :=
 if prev < B ∧ ss.length < B - prev then (0, [], 240)
 else if B + es.length < prev ∨ ((termAt B T es prev).2 = true ∧ (termAt B T es prev).1 ≠ term) then (0, [], 241)
 else match (List.range (placedN prev ss.length)).find? (misses B T es prev ss) with
  | none => (B + es.length, [], 0)
  | some k => (prev + k, ss.drop k, 0)
structure MtAt (W : World) (N g : Nat) (sv : Value) (keep : Nat) (av : Value) : Prop where
 t : W.heap[N]? = some (.cells #[.pointer (some ⟨g, 0, none⟩)] 41)
 l : W.heap[N + 1]? = some (.cells #[sv] 28)
 k : W.heap[N + 1 + 1]? = some (.cells #[.int .u64 (keep : Int)] 22)
 a : W.heap[N + 1 + 1 + 1]? = some (.cells #[av] 28)
theorem MtAt.same {W W' : World} {N g : Nat} {sv : Value} {keep : Nat} {av : Value} (h : MtAt W N g sv keep av) (hs : SameOn (fun b => N ≤ b ∧ b < N + 4) W W') : MtAt W' N g sv keep av :=
 ⟨(hs N (by omega)).trans h.t, (hs (N + 1) (by omega)).trans h.l, (hs (N + 1 + 1) (by omega)).trans h.k, (hs (N + 1 + 1 + 1) (by omega)).trans h.a⟩
theorem one_cell {W : World} {b : Nat} {v : Value} {t : TypeId} (h : W.heap[b]? = some (.cells #[v] t)) : W.cell? ⟨b, 0, none⟩ = some v := by rw [cell_of_row _ _ _ _ _ _ h]; rfl
theorem one_frozen {W : World} {b : Nat} {v : Value} {t : TypeId} (h : W.heap[b]? = some (.cells #[v] t)) : W.frozen? ⟨b, 0, none⟩ = false := by simp [World.frozen?, h]
theorem MtAt.drew {W : World} {N g : Nat} {sv : Value} {keep : Nat} {av : Value} (h : MtAt W N g sv keep av) (j : Nat) : MtAt (W.drewN j) N g sv keep av := ⟨h.t, h.l, h.k, h.a⟩
theorem MtAt.putk {W : World} {N g : Nat} {sv : Value} {keep : Nat} {av : Value} (h : MtAt W N g sv keep av) (m : Nat) : MtAt (W.setCell ⟨N + 1 + 1, 0, none⟩ (.int .u64 (m : Int))) N g sv m av := by
 refine ⟨?_, ?_, ?_, ?_⟩
 · rw [Below.heap_setCell _ _ _ _ (by simp; omega)]; exact h.t
 · rw [Below.heap_setCell _ _ _ _ (by simp)]; exact h.l
 · simp only [World.setCell, Array.getElem?_modify, h.k, if_true, Option.map_some]; rfl
 · rw [Below.heap_setCell _ _ _ _ (by simp)]; exact h.a
theorem MtAt.puta {W : World} {N g : Nat} {sv : Value} {keep : Nat} {av : Value} (h : MtAt W N g sv keep av) (y : Value) : MtAt (W.setCell ⟨N + 1 + 1 + 1, 0, none⟩ y) N g sv keep y := by
 refine ⟨?_, ?_, ?_, ?_⟩
 · rw [Below.heap_setCell _ _ _ _ (by simp; omega)]; exact h.t
 · rw [Below.heap_setCell _ _ _ _ (by simp)]; exact h.l
 · rw [Below.heap_setCell _ _ _ _ (by simp)]; exact h.k
 · simp only [World.setCell, Array.getElem?_modify, h.a, if_true, Option.map_some]; rfl
theorem MtAt.below {W W' : World} {N g : Nat} {sv : Value} {keep : Nat} {av : Value} (h : MtAt W N g sv keep av) (hB : Below W.heap.size W W') : MtAt W' N g sv keep av :=
 ⟨(hB.block _ (Array.getElem?_eq_some_iff.1 h.t).1).trans h.t, (hB.block _ (Array.getElem?_eq_some_iff.1 h.l).1).trans h.l, (hB.block _ (Array.getElem?_eq_some_iff.1 h.k).1).trans h.k, (hB.block _ (Array.getElem?_eq_some_iff.1 h.a).1).trans h.a⟩
theorem MtAt.new (w : World) (g : Nat) (sv : Value) : ∃ W0, Hid ((((w.alloc (.cells #[.pointer (some ⟨g, 0, none⟩)] 41)).alloc (.cells #[sv] 28)).alloc (.cells #[.int .u64 0] 22)).alloc (.cells #[.slice none 0 0] 28) = W0) ∧
 MtAt W0 w.heap.size g sv 0 (.slice none 0 0) ∧ Below w.heap.size w W0 ∧ W0.heap.size = w.heap.size + 4 := by
 refine ⟨_, zh rfl, ⟨?_, ?_, ?_, ?_⟩, ?_, by simp⟩
 · rw [heap_alloc_get, if_neg (by simp only [heap_alloc_size]; omega), heap_alloc_get, if_neg (by simp only [heap_alloc_size]; omega), heap_alloc_get, if_neg (by simp only [heap_alloc_size]; omega), heap_alloc_get, if_pos rfl]
 · rw [heap_alloc_get, if_neg (by simp only [heap_alloc_size]; omega), heap_alloc_get, if_neg (by simp only [heap_alloc_size]; omega), heap_alloc_get, if_pos (by simp only [heap_alloc_size])]
 · rw [heap_alloc_get, if_neg (by simp only [heap_alloc_size]; omega), heap_alloc_get, if_pos (by simp only [heap_alloc_size])]; rfl
 · rw [heap_alloc_get, if_pos (by simp only [heap_alloc_size])]
 · exact ((((Below.refl w.heap.size w).alloc (Nat.le_refl _) _).alloc (by simp) _).alloc (by simp; omega) _).alloc (by simp; omega) _
theorem results_cct {fn : Func} {p q u : Tmp} (h : fn.results = #[.cell p 22, .cell q 28, .tmp u]) (tmps : Array Value) (W : World) (A B : Nat) (k : Nat) (a z : Value) (hp : tmps.getD p undef = .pointer (some ⟨A, 0, none⟩)) (hq : tmps.getD q undef = .pointer (some ⟨B, 0, none⟩)) (hu : tmps.getD u undef = z)
 (ha : W.heap[A]? = some (.cells #[.int .u64 (k : Int)] 22)) (hb : W.heap[B]? = some (.cells #[a] 28)) : (results fn tmps).run Try.prog W = .ok (.tuple #[.int .u64 (k : Int), a, z]) W := by
 have hp' : tmps[p]?.getD undef = .pointer (some ⟨A, 0, none⟩) := by simpa using hp
 have hq' : tmps[q]?.getD undef = .pointer (some ⟨B, 0, none⟩) := by simpa using hq
 have hu' : tmps[u]?.getD undef = z := by simpa using hu
 have l1 : (loadVar 22 ⟨A, 0, none⟩).run Try.prog W = .ok (.int .u64 (k : Int)) W := by
  have hc := one_cell ha
  go_simp
 have l2 : (loadVar 28 ⟨B, 0, none⟩).run Try.prog W = .ok a W := by
  have hc := one_cell hb
  go_simp
 simp [results, h, hp', hq', hu', asAddr, l1, l2, Sem.run_bind, Result.andThen]
set_option maxRecDepth 100000 in
set_option maxHeartbeats 32000000 in
theorem meetg_w (S R : Foot) (g B T prev term : Nat) (v sv : Value) (es ss : List Ent) (w : World) (h : TkAt w S g B T v es) (hr : EsR w R sv ss) (hp : prev < 2 ^ 64) (ht : term < 2 ^ 64)
 (hn : es.length + ss.length ≤ 1000000) (hl : ∀ e ∈ ss, e.2.length ≤ 1000000) :
 Calls Try.prog 24 #[.pointer (some ⟨g, 0, none⟩), .int .u64 (prev : Int), .int .u64 (term : Int), sv] w fun r w' =>
  ∃ av, r = .returned (.tuple #[.int .u64 (((meetR B T es prev term ss).1 : Nat) : Int), av, .int .i64 (meetR B T es prev term ss).2.2]) ∧ EsG w' (fun b => w.heap.size ≤ b) 53 av (meetR B T es prev term ss).2.1 ∧ Below w.heap.size w w' := by
 obtain ⟨S0, hS0, h⟩ : ∃ S0 : Foot, (∀ b, S0 b → b < w.heap.size) ∧ TkAt w S0 g B T v es := ⟨fun b => S b ∧ b < w.heap.size, fun b h => h.2, h.mono fun b hb hs => ⟨hs, hb⟩⟩
 obtain ⟨R0, hR0, hr⟩ : ∃ R0 : Foot, (∀ b, R0 b → b < w.heap.size) ∧ EsR w R0 sv ss := ⟨fun b => R b ∧ b < w.heap.size, fun b h => h.2, hr.mono fun b hb hs => ⟨hs, hb⟩⟩
 have HS0 := zh hS0
 have HT0w := zh h
 have HR0 := zh hR0
 clear hS0 hR0
 obtain ⟨p0, c0, rfl⟩ : ∃ p c, sv = .slice p ss.length c := by obtain ⟨p, c, xs, h1, _⟩ := hr; exact ⟨p, c, h1⟩
 obtain ⟨W0, HW0, hm, hB0, hs0⟩ := MtAt.new w g (.slice p0 ss.length c0)
 have hcell0 := one_cell hm.t
 have hcell1 := one_cell hm.l
 have hT0 := h.keeps hB0.block
 have hc0 := hT0.c0
 have HM := zh hm
 have HB := zh hB0
 have HT := zh hT0
 have Hr := zh hr
 have Hl := zh hl
 have hb := h.bB
 have hnl : ss.length ≤ 1000000 := by omega
 have hel : es.length ≤ 1000000 := by omega
 have hlit := hcell0
 rw [← HW0.out] at hlit
 clear h hr hl hm hB0 hT0 hn
 refine (callsIn_wide (n := 0)).1 (callsIn_of_wp_marks Try.func24 rfl trivial ?_ rfl)
 refine wpIn_wide.2 ?_
 simp only [Try.ntmps24, List.size_toArray, List.length_cons, List.length_nil, Nat.reduceAdd, Nat.reduceSub, Array.replicate_succ, Array.replicate_zero, List.push_toArray, List.append_toArray, List.nil_append, List.cons_append]
 generalize hQ : bodyPostM Fence.wide 0 Try.prog _ _ = Q
 have HQ := zh hQ
 clear hQ
 clear hlit
 go_wp2
 rw [HW0.out]
 clear HW0
 go_step3
 go_wp2
 unfold meetR at HQ
 by_cases hA : prev < B ∧ ss.length < B - prev
 · rw [if_pos hA] at HQ
   have e1 : decide (prev < B) = true := by simp [hA.1]
   have w1 : IntKind.u64.wrap ((ss.length : Nat) : Int) = ((ss.length : Nat) : Int) := IntWalk.u64_in _ (by omega)
   obtain ⟨d, hd⟩ : ∃ d, d = B - prev := ⟨_, rfl⟩
   have w2 : IntKind.u64.wrap ((B : Int) - (prev : Int)) = (d : Int) := by rw [IntWalk.u64_in _ (by omega)]; omega
   have e2 : decide (ss.length < d) = true := by simp; omega
   have f2 := one_cell HM.out.k
   have f3 := one_frozen HM.out.k
   have f4 := one_cell HM.out.a
   have f5 := one_frozen HM.out.a
   clear hd hA
   go_quiet (fail)
   go_wp2
   rw [← HQ.out]
   have hfin := (((HM.out.drew nq).putk 0).puta (.slice none 0 0))
   exact ⟨_, results_cct rfl _ _ _ _ _ _ _ rfl rfl rfl hfin.k hfin.a, _, rfl, .inl ⟨rfl, rfl⟩, ((HB.out.trans (c := W0.drewN nq) ⟨rfl, rfl, rfl, Nat.le_refl _, fun _ _ => rfl⟩).setCell (p := ⟨w.heap.size + 1 + 1, 0, none⟩) (by show w.heap.size ≤ w.heap.size + 1 + 1; omega) _).setCell (p := ⟨w.heap.size + 1 + 1 + 1, 0, none⟩) (by show w.heap.size ≤ w.heap.size + 1 + 1 + 1; omega) _⟩
 · rw [if_neg hA] at HQ
   by_cases hA1 : prev < B
   · have e1 : decide (prev < B) = true := by simp [hA1]
     have w1 : IntKind.u64.wrap ((ss.length : Nat) : Int) = ((ss.length : Nat) : Int) := IntWalk.u64_in _ (by omega)
     obtain ⟨d, hd⟩ : ∃ d, d = B - prev := ⟨_, rfl⟩
     have w2 : IntKind.u64.wrap ((B : Int) - (prev : Int)) = (d : Int) := by rw [IntWalk.u64_in _ (by omega)]; omega
     have e2 : decide (ss.length < d) = false := by simp; omega
     clear hd hA
     go_quiet (fail)
     have Hterm := zh (termat_w S0 g B T v es prev (W0.drewN nq) (HT.out.keeps (Keeps.of_heap rfl)) hel hp)
     obtain ⟨at1, ok1, hat⟩ : ∃ x y, termAt B T es prev = (x, y) := ⟨_, _, rfl⟩
     rw [hat] at Hterm HQ
     obtain ⟨L, hL⟩ : ∃ L, L = B + es.length := ⟨_, rfl⟩
     have HLe := zh hL
     clear hL
     obtain rfl : ok1 = false := by have h2 := congrArg Prod.snd hat; unfold termAt at h2; rw [if_pos (.inl hA1)] at h2; exact h2.symm
     have hc1 : ¬ B + es.length < prev := by omega
     rw [if_neg (not_or.2 ⟨hc1, fun h => by cases h.1⟩)] at HQ
     have e3 : decide (B + es.length < prev) = false := by simp; omega
     rw [← HLe.out] at e3
     clear hat hc1
     go_wp2_with (first
      | (go_at_call 28; refine (Hterm.out).mono ?_; rintro r w1 ⟨rfl, hB⟩; have HM1 := zh (HM.out.drew nq |>.below hB); have HT1 := zh ((HT.out.keeps (Keeps.of_heap (w' := W0.drewN nq) rfl)).keeps hB.block); have HB1 := zh ((HB.out.trans (c := W0.drewN nq) ⟨rfl, rfl, rfl, Nat.le_refl _, fun _ _ => rfl⟩).trans (hB.mono HB.out.size)); have hcell2 := one_cell HM1.out.t; have Hlast := zh (last_w S0 g B T v es w1 HT1.out); clear hB)
      | (go_at_call 76; first | (rw [← HLe.out] at Hlast; refine (Hlast.out).mono ?_; rintro r w2 ⟨rfl, hB⟩; have HM2 := zh (HM1.out.below hB); have HT2 := zh (HT1.out.keeps hB.block); have HB2 := zh (HB1.out.trans (hB.mono HB1.out.size)); have f6 := one_cell HM2.out.t; have Hlast2 := zh (last_w S0 g B T v es w2 HT2.out); clear hB) | (rw [← HLe.out] at Hlast2; refine (Hlast2.out).mono ?_; rintro r w3 ⟨rfl, hB⟩; have HM3 := zh (HM2.out.below hB); have HT3 := zh (HT2.out.keeps hB.block); have HB3 := zh (HB2.out.trans (hB.mono HB2.out.size)); have f2 := one_cell HM3.out.k; have f3 := one_frozen HM3.out.k; have HM3k := zh (HM3.out.putk L); have f7 := one_cell HM3k.out.l; clear hB)))
     go_step3
     go_wp2_with (go_at_call 77; refine (placed_w prev (.slice p0 ss.length c0) rfl _).mono ?_; rintro r w4 ⟨rfl, hw4⟩; have HW4 := zh hw4; clear hw4)
     have hM4 : MtAt w4 w.heap.size g (.slice p0 ss.length c0) L (.slice none 0 0) := by rw [HW4.out]; exact (HM3k.out.below ((Below.refl _ _).alloc (Nat.le_refl _) _)).below ((Below.refl _ _).alloc (Nat.le_refl _) _)
     have hs3 : w.heap.size + 4 ≤ w3.heap.size := (Array.getElem?_eq_some_iff.1 HM3.out.a).1
     have hPl : PlAt w4 w3.heap.size (w3.heap.size + 1) prev (.slice p0 ss.length c0) := by
      rw [HW4.out]
      refine ⟨?_, ?_⟩
      · rw [heap_alloc_get, if_neg (by simp), heap_alloc_get, if_pos (by simp)]
      · rw [heap_alloc_get, if_pos (by simp)]
     have hs4 : w4.heap.size = w3.heap.size + 2 := by rw [HW4.out]; simp
     have hB4 : Below w.heap.size w w4 := by
      rw [HW4.out]
      exact ((HB3.out.setCell (p := ⟨w.heap.size + 1 + 1, 0, none⟩) (by show w.heap.size ≤ w.heap.size + 1 + 1; omega) _).alloc (by simp; omega) _).alloc (by simp; omega) _
     have hT4 : TkAt w4 S0 g B T v es := HT0w.out.frame fun b hb => hB4.block b (HS0.out b hb)
     have hR4 : EsR w4 R0 (.slice p0 ss.length c0) ss := Hr.out.frame fun b hb => hB4.block b (HR0.out b hb)
     clear hs0 hcell0 hcell1 hc0 hcell2 f6 f2 f3 f7
     have HF := zh (fun (W : World) (h : Touch (fun b => b = w3.heap.size) w4 W) => (show TkAt W S0 g B T v es ∧ EsR W R0 (.slice p0 ss.length c0) ss ∧ MtAt W w.heap.size g (.slice p0 ss.length c0) L (.slice none 0 0) from
      ⟨hT4.frame (h.same (fun b hb => by have := HS0.out b hb; omega) (fun b hb e => by have := HS0.out b hb; omega)),
       hR4.frame (h.same (fun b hb => by have := HR0.out b hb; omega) (fun b hb e => by have := HR0.out b hb; omega)),
       hM4.same (h.same (fun b hb => by omega) (fun b hb e => by omega))⟩))
     have hplc : SameOn (fun b => b = w3.heap.size ∨ b = w3.heap.size + 1) w4 w4 := SameOn.refl _ _
     obtain ⟨B4, hB4s⟩ : ∃ B4, w4.heap.size = B4 := ⟨_, rfl⟩
     have hBp : w3.heap.size < w4.heap.size := by omega
     refine wpIn_wide.1 (range_law (gf := 123) (lb := #[.pointer (some ⟨w3.heap.size + 1, 0, none⟩), .pointer (some ⟨w3.heap.size, 0, none⟩)]) rfl (enters_of Try.func123 (by kernel_rfl) rfl) hBp
      (placed_iter w4 prev w3.heap.size (w3.heap.size + 1) ss.length c0 p0 hp hnl (by omega) hPl) (fun _ => rfl) (fun h k => h.trans k) (fun W l o' hl b hb => World.putObj_heap_other (by omega)) (.exit 0) ⟨0, rfl⟩
      (fun k W => (∀ j, j < k → misses B T es prev ss j = false) ∧ Touch (fun b => b = w3.heap.size) w4 W ∧ w4.heap.size + 2 ≤ W.heap.size)
      (fun k W => misses B T es prev ss k = true ∧ (∀ j, j < k → misses B T es prev ss j = false) ∧ ∃ av, MtAt W w.heap.size g (.slice p0 ss.length c0) (prev + k) av ∧ EsG W (fun b => w4.heap.size + 2 ≤ b) 53 av (ss.drop k) ∧ Below w.heap.size w W)
      ?hI0 ?hIx0 ?hIw0 ?h00 ?a10 ?assign0 ?body0 ?done0 ?stop0)
     case assign0 =>
      intro l k W K hK
      gi_wp2
      exact hK
     case hIw0 =>
      rintro k A u ⟨h1, h2, h3⟩
      exact ⟨h1, h2.trans (Touch.of_grownBy (S := fun b => b = w3.heap.size) (Lib.grownBy_setCell A w3.heap.size 0 u) (fun b e => by cases e; rfl)) (fun b _ e => e), by simpa [World.setCell] using h3⟩
     case h00 =>
      intro W hB hs
      exact ⟨fun j hj => by omega, Touch.of_below hB, hs⟩
     case hI0 =>
      rintro k A l o' hl ⟨h1, h2, h3⟩
      refine ⟨h1, ⟨h2.os, h2.tape, h2.output, ?_, fun b hb hn => ?_⟩, ?_⟩
      · simpa [World.putObj] using h2.size
      · rw [World.putObj_heap_other (by omega)]; exact h2.block b hb hn
      · simpa [World.putObj] using h3
     case hIx0 =>
      rintro k A l o' hl ⟨h1, h2, av, h3, h4, h5⟩
      refine ⟨h1, h2, av, h3.same fun b hb => World.putObj_heap_other (by omega), h4.frame fun b hb => ?_, ?_⟩
      · have hb' : w4.heap.size + 2 ≤ b := hb
        exact World.putObj_heap_other (by omega)
      · exact h5.trans ⟨rfl, rfl, rfl, by simp [World.putObj], fun b hb => World.putObj_heap_other (by omega)⟩
     case body0 =>
      rintro l k W ⟨hmiss, hTo, hsz⟩ hkN hlw
      obtain ⟨k1, k2, k3⟩ := HF.out W hTo
      have f0 := one_cell k3.t
      have fb := k1.c0
      have fl := one_cell k3.l
      have hkn : k < ss.length := by unfold placedN at hkN; omega
      have hkt : prev + k + 1 < 2 ^ 64 := by unfold placedN at hkN; omega
      have HTm := zh (termat_w S0 g B T v es (prev + k + 1) W k1 hel hkt)
      have hx0 : (prev : Int) + (k : Int) + 1 = ((prev + k + 1 : Nat) : Int) := by omega
      rw [hx0]
      generalize hix : prev + k + 1 = ix at *
      have Hix := zh hix
      clear hix hx0
      by_cases hB : ix ≤ B
      · have e9 : decide (ix ≤ B) = true := by simp [hB]
        have hm : misses B T es prev ss k = false := by unfold misses; rw [Hix.out]; simp; omega
        gi_wp2
        exact ⟨Recs.refl _ _, SameOn.refl _ _, all_succ hmiss hm, hTo, hsz⟩
      · have e9 : decide (ix ≤ B) = false := by simp; omega
        obtain ⟨tt, okk, htt⟩ : ∃ x y, termAt B T es ix = (x, y) := ⟨_, _, rfl⟩
        have Htt := zh htt
        rw [htt] at HTm
        obtain ⟨b, off, c, hsv, hcell⟩ := k2.term k hkn
        cases hsv
        have Hcell := zh hcell
        have hlb := block_lt_of_cell hcell
        have hgd : ss.getD k (0, []) = ss[k] := by simp [List.getD, List.getElem?_eq_getElem hkn]
        obtain ⟨t0, ht0⟩ : ∃ x, ss[k].1 = x := ⟨_, rfl⟩
        rw [ht0] at hcell Hcell
        have Hms := zh (show misses B T es prev ss k = (!okk || decide (tt ≠ t0)) by unfold misses; rw [Hix.out, Htt.out, hgd, ht0]; simp; omega)
        clear htt hgd ht0 hcell
        by_cases hno : okk = true ∧ tt = t0
        · obtain ⟨rfl, rfl⟩ := hno
          have hm : misses B T es prev ss k = false := by rw [Hms.out]; simp
          have e8 : (tt == tt) = true := by simp
          gi_wp2_with (refine ⟨trivial, rfl, ?_⟩; gi_at_call 28; refine (CallsIn.inRound l (callsIn_wide.2 HTm.out)).mono ?_; rintro r w5 ⟨rfl, hB⟩; have HB5 := zh hB; have g0 := one_cell (hB.block _ (Array.getElem?_eq_some_iff.1 k3.l).1 |>.trans k3.l); have g1 := (hB.cell (p := ⟨b, off + k * 2, none⟩) hlb).trans Hcell.out; clear hB)
          exact ⟨Recs.keeps HB5.out.block hlw, fun x hx => HB5.out.block x (by have := hTo.size; omega), all_succ hmiss hm, hTo.trans (Touch.of_below HB5.out) (S1 := fun b => b = w3.heap.size) (fun b _ e => e), Nat.le_trans hsz HB5.out.size⟩
        · have hm : misses B T es prev ss k = true := by rw [Hms.out]; cases okk <;> simp_all
          have Hm := zh hm
          have hok : okk = false ∨ (okk = true ∧ decide (tt = t0) = false ∧ (tt == t0) = false) := by cases okk <;> simp_all
          obtain ⟨pk, hpk⟩ : ∃ x, x = prev + k := ⟨_, rfl⟩
          have e10 : IntKind.u64.wrap ((ix : Int) - 1) = (pk : Int) := by have := Hix.out; rw [IntWalk.u64_in _ (by omega)]; omega
          have Hpk := zh hpk
          have hcap : ss.length ≤ c0 := by obtain ⟨p, c', xs, e, q, _⟩ := k2; cases e; exact q
          obtain ⟨m, hmm⟩ : ∃ m, m = ss.length - k := ⟨_, rfl⟩
          obtain ⟨cm, hcm⟩ : ∃ cm, cm = c0 - k := ⟨_, rfl⟩
          have hsl : ∀ x : World, (Instr.sliceAt 28 (.slice (some ⟨b, off, none⟩) ss.length c0) (some (.int .i64 (k : Int))) none none).run Try.prog x = .ok (.slice (some ⟨b, off + k * 2, none⟩) m cm) x := fun x => by
           rw [run_slice_lo (P := Try.prog) 28 53 Try.underlying28 2 (by kernel_rfl) (some ⟨b, off, none⟩) ss.length c0 k (by omega) x, if_neg (by omega), hmm, hcm]
           simp [Addr.add_mid]
          have Hmm := zh hmm
          have hm6 : m ≤ 1000000 := by omega
          clear hmm hcm
          clear hm hpk hno
          rcases hok with rfl | ⟨rfl, e11, e12⟩
          all_goals gi_wp2_with (first
           | (refine ⟨trivial, rfl, ?_⟩; gi_at_call 28; refine (CallsIn.inRound l (callsIn_wide.2 HTm.out)).mono ?_; rintro r w5 ⟨rfl, hB⟩; have HB5 := zh hB; have HM5 := zh (k3.below hB); have g0 := one_cell HM5.out.l; have g1 := (hB.cell (p := ⟨b, off + k * 2, none⟩) hlb).trans Hcell.out; have g2 := one_cell HM5.out.k; have g3 := one_frozen HM5.out.k; have HM6 := zh (HM5.out.putk pk); have g4 := one_cell HM6.out.l; clear hB))
          all_goals try simp only [bne]
          all_goals have HRc0 := zh (show Recs w4.heap.size W (w5.setCell ⟨w.heap.size + 1 + 1, 0, none⟩ (.int .u64 (pk : Int))) from
           (Recs.keeps HB5.out.block hlw).trans ⟨Below.heap_setCell _ _ _ _ (by simp; omega), Below.heap_setCell _ _ _ _ (by simp; omega)⟩)
          all_goals have HBw := zh (show Below w.heap.size w (w5.setCell ⟨w.heap.size + 1 + 1, 0, none⟩ (.int .u64 (pk : Int))) from
           ((hB4.trans (hTo.below (B := w.heap.size) (by omega) (fun b hb => by omega))).trans (HB5.out.mono (by omega))).setCell (p := ⟨w.heap.size + 1 + 1, 0, none⟩) (by show w.heap.size ≤ w.heap.size + 1 + 1; omega) _)
          all_goals have Hsz := zh (show w4.heap.size + 2 ≤ (w5.setCell ⟨w.heap.size + 1 + 1, 0, none⟩ (.int .u64 (pk : Int))).heap.size from by have := HB5.out.size; simp [World.setCell]; omega)
          all_goals gi_loopw [93] (fun i wr => ∃ (j : Nat) (av : Value), j ≤ m ∧ i = .int .i64 (j : Int) ∧ Hid (MtAt wr w.heap.size g (.slice (some ⟨b, off, none⟩) ss.length c0) pk av) ∧ Hid (EsG wr (fun b => w4.heap.size + 2 ≤ b) 53 av ((ss.drop k).take j)) ∧ Hid (Below w.heap.size w wr) ∧ Hid (Recs w4.heap.size W wr) ∧ Hid (w4.heap.size + 2 ≤ wr.heap.size)) (fun i _ => m - (intOf i).toNat)
          case atStart => exact ⟨0, .slice none 0 0, Nat.zero_le _, rfl, HM6, zh (.inl ⟨rfl, rfl⟩), HBw, HRc0, Hsz⟩
          case atStart => exact ⟨0, .slice none 0 0, Nat.zero_le _, rfl, HM6, zh (.inl ⟨rfl, rfl⟩), HBw, HRc0, Hsz⟩
          case round =>
           obtain ⟨j, av, hj, rfl, HMr, HEr, HBr, HRr, Hszr⟩ := hrel
           have mk := one_cell HMr.out.a
           by_cases hlt : j < m
           · have hkj : k + j < ss.length := by have := Hmm.out; omega
             have hRr : EsR wr R0 (.slice (some ⟨b, off, none⟩) ss.length c0) ss := Hr.out.frame fun x hx => HBr.out.block x (HR0.out x hx)
             obtain ⟨b2, off2, n2, c2, d, hsv, hnn, hrange, hda, htl⟩ := hRr.elem (k + j) hkj
             cases hsv
             have Hra := zh (show wr.rangeAt b (off + k * 2 + j * 2) [.int .u64 ((ss[k + j].1 : Nat) : Int), d] by rw [show off + k * 2 + j * 2 = off + (k + j) * 2 by omega]; exact hrange)
             have Hda := zh hda
             have Htl := zh htl
             have Hes := zh (show (ss.drop k).take (j + 1) = (ss.drop k).take j ++ [(ss[k + j].1, ss[k + j].2)] by
              rw [List.take_succ_eq_append_getElem (by rw [List.length_drop]; omega)]; simp)
             have hll := Hl.out ss[k + j] (List.getElem_mem _)
             have HZ := zh (heap_alloc_new wr (.cells #[.int .u64 0, .slice none 0 0] 53))
             generalize ss[k + j].1 = t at *
             generalize ss[k + j].2 = le at *
             obtain ⟨pd, cd, rfl⟩ : ∃ p c, d = .slice p le.length c := by obtain ⟨p, c, h1, _⟩ := hda.rd; exact ⟨p, c, h1⟩
             obtain ⟨pa, na, ca, rfl⟩ : ∃ p n c, av = .slice p n c := by obtain ⟨p, c, e⟩ := HEr.out.form; exact ⟨p, _, c, e⟩
             obtain ⟨W2, HW2, hE, hB2⟩ := stored53 wr t (.slice pd le.length cd)
             have HE := zh hE
             have HB2 := zh hB2
             have HM2r := zh (HMr.out.below hB2)
             have mk2 := one_cell HM2r.out.a
             have me0 := hE.at0
             have me1 := hE.at1
             clear hrange hda htl hE hB2 hRr hnn hkj
             gi_wp2_with (first
              | (refine wpListIn_exec (fun _ => trivial) rfl (fun c h => by cases h) (exec_load53 (.tmp 95) rfl rfl Hra.out) ?_)
              | (refine wpListIn_exec (fun _ => trivial) rfl (fun c h => by cases h) (exec_alloc53 rfl) ?_)
              | (refine wpListIn_exec_skip (fun _ => trivial) rfl (fun c h => by cases h) rfl (exec_store53 (.tmp 18) (.tmp 96) rfl rfl rfl HZ.out) ?_; rw [HW2.out]))
             have HE2 := zh (HEr.out.keeps HB2.out.block)
             have hN : w.heap.size + 1 + 1 + 1 < wr.heap.size := (Array.getElem?_eq_some_iff.1 HMr.out.a).1
             have hszr := Hszr.out
             have hw2s : w4.heap.size + 2 ≤ W2.heap.size := Nat.le_trans hszr HB2.out.size
             have hNlt : wr.heap.size < W2.heap.size := HE.out.lt
             have hug : ∀ x, (Value.slice pa na ca).ownBlock = some x → w4.heap.size + 2 ≤ x ∧ x < wr.heap.size := fun x e => HEr.out.foot x e
             have Hug := zh hug
             clear hug
             have Hcell := zh (fun (W : World) (hR : Touch (fun b => (Value.slice pa na ca).ownBlock = some b ∨ W2.heap.size ≤ b) W2.drew W) => (show W.heap[w.heap.size + 1 + 1 + 1]? = some (.cells #[.slice pa na ca] 28) from by
              rw [hR.block _ (by show w.heap.size + 1 + 1 + 1 < W2.heap.size; omega) (fun e => e.elim (fun e => by have := (Hug.out _ e).1; omega) (fun e => by omega))]
              exact HM2r.out.a))
             have Hent := zh (fun (W : World) (hR : Touch (fun b => (Value.slice pa na ca).ownBlock = some b ∨ W2.heap.size ≤ b) W2.drew W) => (show EntAt W wr.heap.size t (.slice pd le.length cd) from by
              unfold EntAt
              rw [hR.block _ hNlt (fun e => e.elim (fun e => by have := (Hug.out _ e).2; omega) (fun e => by omega))]
              exact HE.out))
             have HDat := zh (fun (W : World) (hR : Touch (fun b => (Value.slice pa na ca).ownBlock = some b ∨ W2.heap.size ≤ b) W2.drew W) => (show RdB W (.slice pd le.length cd) le from
              Hda.out.rd.same fun x e hne => by
               have hx := HR0.out x (Hda.out.foot x e hne)
               rw [hR.block x (by show x < W2.heap.size; omega) (fun e => e.elim (fun e => by have := (Hug.out _ e).1; omega) (fun e => by omega))]
               exact HB2.out.block x (by omega)))
             apply RegT.wpIn_region_T rfl _ 5 rfl (by kernel_rfl) (by kernel_rfl) (by rintro ⟨a, w, h⟩; exact h) (RegR (.slice pa na ca) (fun b => w4.heap.size + 2 ≤ b) W2.heap.size ((ss.drop k).take j)) (RegR.refl _ _ _ _) (RegR.trans _ _ _ _)
             · apply RegT.T_pure (v := .slice pa na ca) rfl rfl rfl
               · intro W hR
                 have hc := one_cell (Hcell.out W hR.1)
                 clear hR
                 go_simp
               simp only [Nat.reduceAdd]
               apply RegT.T_pure (v := .agg #[.int .u64 (t : Int), .slice pd le.length cd]) rfl rfl rfl
               · exact fun W hR => load_ent (.tmp 18) rfl rfl (Hent.out W hR.1)
               simp only [Nat.reduceAdd]
               apply RegT.T_predC rfl rfl rfl 3 (CopyOf t le W2.heap.size) (RegR.grow _ _ _ _) (fun y x z hR h => h.keeps hR.block)
               · intro W hR hf
                 have hsz := hR.1.size
                 have Hc := zh (copied_w t (.slice pd le.length cd) le W (HDat.out W hR.1) (by omega))
                 clear hR hf
                 go_simp
                 exact RegT.OpOK_enter Hc.out (fun e w' ⟨p, c, he, hd, hB⟩ => ⟨_, he, ⟨p, c, rfl, hd.mono fun b _ hb => Nat.le_trans hsz hb⟩, hB⟩)
               intro v2
               simp only [Nat.reduceAdd]
               apply RegT.T_predC rfl rfl rfl 4 (RowOf t le W2.heap.size) (RegR.grow _ _ _ _) (fun y x z hR h => h.keeps hR.block)
               · intro W hR hf
                 obtain ⟨p, c, rfl, hd⟩ := hf _ (.head _) (by kernel_rfl) (.inr rfl)
                 clear hR hf
                 go_simp
                 exact RegT.OpOK_value ⟨⟨_, p, c, rfl, EntAt.new _ _ _, hd.keeps ((Keeps.refl W).alloc _)⟩, (Below.refl _ _).alloc (Nat.le_refl _) _⟩
               intro v3
               simp only [Nat.reduceAdd]
               apply RegT.T_write rfl rfl rfl none (fun y W => EsG W (fun b => w4.heap.size + 2 ≤ b) 53 y ((ss.drop k).take (j + 1))) (fun y x z hR h => h.keeps hR.block)
               · intro W hR hf
                 obtain ⟨N, p, c, rfl, he, hd⟩ := hf _ (.head _) (by kernel_rfl) (.inr rfl)
                 have hsz : W2.heap.size ≤ W.heap.size := hR.1.size
                 obtain ⟨v', w', hr, ho', hg, _, hold⟩ := run_append_esg (P := Try.prog) (ty := 28) (c := 1) (S' := fun b => w4.heap.size + 2 ≤ b) helE (hR.2 (HE2.out.keeps (Keeps.refl W2).drew)) (EsC.cons Htl.out (hd.mono fun b _ hb => (⟨Nat.le_trans hw2s hb, fun e => by have hb2 : W2.heap.size ≤ b := hb; have := (Hug.out b e).2; omega⟩ : (w4.heap.size + 2 ≤ b) ∧ (Value.slice pa na ca).ownBlock ≠ some b)) .nil) (.inr ⟨⟨N, 0, none⟩, rfl, ent_cells he⟩)
                  (by rw [List.length_take, List.length_drop]; unfold maxLen; simp; omega) (by rw [List.length_take, List.length_drop]; simp; omega) (fun b hb => hb) (Nat.le_trans hw2s hsz)
                 refine append_ok (.tmp 97) (.tmp 100) rfl rfl rfl hr ⟨?_, ⟨Touch.of_grownBy hg fun b e => .inl e, fun _ => hold⟩⟩
                 rw [Hes.out]; exact ho'
               intro v4
               simp only [Nat.reduceAdd]
               refine RegT.T_tail (fun W hR hf => ?_)
               have hy : EsG W (fun b => w4.heap.size + 2 ≤ b) 53 v4 ((ss.drop k).take (j + 1)) := hf _ (.head _) (.inl rfl)
               obtain ⟨p8, n8, c8, rfl⟩ : ∃ p n c, v4 = .slice p n c := by obtain ⟨p, c, e⟩ := hy.form; exact ⟨p, _, c, e⟩
               have Hy := zh hy
               have hsame : ∀ b, b < wr.heap.size → ¬ (w4.heap.size + 2 ≤ b) → W.heap[b]? = wr.heap[b]? := fun b hb hn => by
                rw [hR.1.block b (by show b < W2.heap.size; omega) (fun e => e.elim (fun e => by have := (Hug.out _ e).1; omega) (fun e => by omega))]
                exact HB2.out.block b hb
               have HMW := zh (show MtAt W w.heap.size g (.slice (some ⟨b, off, none⟩) ss.length c0) pk (.slice pa na ca) from HMr.out.same fun b hb => hsame b (by omega) (by omega))
               have HBW := zh (show Below w.heap.size w W from HBr.out.trans ⟨hR.1.os.trans HB2.out.os, hR.1.tape.trans HB2.out.tape, hR.1.output.trans HB2.out.output, Nat.le_trans HB2.out.size hR.1.size, fun b hb => hsame b (by omega) (by omega)⟩)
               have HRW := zh (show Recs w4.heap.size wr W from ⟨hsame _ (by omega) (by omega), hsame _ (by omega) (by omega)⟩)
               have HsW := zh (show w4.heap.size + 2 ≤ W.heap.size from Nat.le_trans hw2s hR.1.size)
               have hc2 := one_cell HMW.out.a
               have hf2 := one_frozen HMW.out.a
               clear hR hf hy hsame
               simp only [List.drop_succ_cons, List.drop_zero]
               go_wp2
               gi_wp2
               go_roundw
               case rel =>
                first
                 | (refine ⟨j + 1, _, by omega, by go_num, zh (HMW.out.puta _), zh (Hy.out.frame fun x hx => Below.heap_setCell _ _ _ _ (by have hx' : w4.heap.size + 2 ≤ x := hx; simp; omega)), zh (HBW.out.setCell (p := ⟨w.heap.size + 1 + 1 + 1, 0, none⟩) (by show w.heap.size ≤ w.heap.size + 1 + 1 + 1; omega) _), zh ((HRr.out.trans HRW.out).trans ⟨Below.heap_setCell _ _ _ _ (by simp; omega), Below.heap_setCell _ _ _ _ (by simp; omega)⟩), zh (by have := HsW.out; simpa [World.setCell] using this)⟩)
                 | (refine ⟨_, _, _, _, _, _, _, _, _, _, _, ?_, rfl⟩; refine ⟨j + 1, _, by omega, by go_num, zh (HMW.out.puta _), zh (Hy.out.frame fun x hx => Below.heap_setCell _ _ _ _ (by have hx' : w4.heap.size + 2 ≤ x := hx; simp; omega)), zh (HBW.out.setCell (p := ⟨w.heap.size + 1 + 1 + 1, 0, none⟩) (by show w.heap.size ≤ w.heap.size + 1 + 1 + 1; omega) _), zh ((HRr.out.trans HRW.out).trans ⟨Below.heap_setCell _ _ _ _ (by simp; omega), Below.heap_setCell _ _ _ _ (by simp; omega)⟩), zh (by have := HsW.out; simpa [World.setCell] using this)⟩)
               case measure => simp [intOf]; omega
             · rfl
             · kernel_rfl
           · have hjm : j = m := by omega
             gi_wp2
             have hE := HEr.out
             rw [hjm, List.take_of_length_le (by rw [List.length_drop]; have := Hmm.out; omega)] at hE
             have hM := HMr.out
             rw [Hpk.out] at hM
             exact ⟨rfl, HRr.out, Hm.out, hmiss, av, hM, hE, HBr.out⟩
          case round =>
           obtain ⟨j, av, hj, rfl, HMr, HEr, HBr, HRr, Hszr⟩ := hrel
           have mk := one_cell HMr.out.a
           by_cases hlt : j < m
           · have hkj : k + j < ss.length := by have := Hmm.out; omega
             have hRr : EsR wr R0 (.slice (some ⟨b, off, none⟩) ss.length c0) ss := Hr.out.frame fun x hx => HBr.out.block x (HR0.out x hx)
             obtain ⟨b2, off2, n2, c2, d, hsv, hnn, hrange, hda, htl⟩ := hRr.elem (k + j) hkj
             cases hsv
             have Hra := zh (show wr.rangeAt b (off + k * 2 + j * 2) [.int .u64 ((ss[k + j].1 : Nat) : Int), d] by rw [show off + k * 2 + j * 2 = off + (k + j) * 2 by omega]; exact hrange)
             have Hda := zh hda
             have Htl := zh htl
             have Hes := zh (show (ss.drop k).take (j + 1) = (ss.drop k).take j ++ [(ss[k + j].1, ss[k + j].2)] by
              rw [List.take_succ_eq_append_getElem (by rw [List.length_drop]; omega)]; simp)
             have hll := Hl.out ss[k + j] (List.getElem_mem _)
             have HZ := zh (heap_alloc_new wr (.cells #[.int .u64 0, .slice none 0 0] 53))
             generalize ss[k + j].1 = t at *
             generalize ss[k + j].2 = le at *
             obtain ⟨pd, cd, rfl⟩ : ∃ p c, d = .slice p le.length c := by obtain ⟨p, c, h1, _⟩ := hda.rd; exact ⟨p, c, h1⟩
             obtain ⟨pa, na, ca, rfl⟩ : ∃ p n c, av = .slice p n c := by obtain ⟨p, c, e⟩ := HEr.out.form; exact ⟨p, _, c, e⟩
             obtain ⟨W2, HW2, hE, hB2⟩ := stored53 wr t (.slice pd le.length cd)
             have HE := zh hE
             have HB2 := zh hB2
             have HM2r := zh (HMr.out.below hB2)
             have mk2 := one_cell HM2r.out.a
             have me0 := hE.at0
             have me1 := hE.at1
             clear hrange hda htl hE hB2 hRr hnn hkj
             gi_wp2_with (first
              | (refine wpListIn_exec (fun _ => trivial) rfl (fun c h => by cases h) (exec_load53 (.tmp 95) rfl rfl Hra.out) ?_)
              | (refine wpListIn_exec (fun _ => trivial) rfl (fun c h => by cases h) (exec_alloc53 rfl) ?_)
              | (refine wpListIn_exec_skip (fun _ => trivial) rfl (fun c h => by cases h) rfl (exec_store53 (.tmp 18) (.tmp 96) rfl rfl rfl HZ.out) ?_; rw [HW2.out]))
             have HE2 := zh (HEr.out.keeps HB2.out.block)
             have hN : w.heap.size + 1 + 1 + 1 < wr.heap.size := (Array.getElem?_eq_some_iff.1 HMr.out.a).1
             have hszr := Hszr.out
             have hw2s : w4.heap.size + 2 ≤ W2.heap.size := Nat.le_trans hszr HB2.out.size
             have hNlt : wr.heap.size < W2.heap.size := HE.out.lt
             have hug : ∀ x, (Value.slice pa na ca).ownBlock = some x → w4.heap.size + 2 ≤ x ∧ x < wr.heap.size := fun x e => HEr.out.foot x e
             have Hug := zh hug
             clear hug
             have Hcell := zh (fun (W : World) (hR : Touch (fun b => (Value.slice pa na ca).ownBlock = some b ∨ W2.heap.size ≤ b) W2.drew W) => (show W.heap[w.heap.size + 1 + 1 + 1]? = some (.cells #[.slice pa na ca] 28) from by
              rw [hR.block _ (by show w.heap.size + 1 + 1 + 1 < W2.heap.size; omega) (fun e => e.elim (fun e => by have := (Hug.out _ e).1; omega) (fun e => by omega))]
              exact HM2r.out.a))
             have Hent := zh (fun (W : World) (hR : Touch (fun b => (Value.slice pa na ca).ownBlock = some b ∨ W2.heap.size ≤ b) W2.drew W) => (show EntAt W wr.heap.size t (.slice pd le.length cd) from by
              unfold EntAt
              rw [hR.block _ hNlt (fun e => e.elim (fun e => by have := (Hug.out _ e).2; omega) (fun e => by omega))]
              exact HE.out))
             have HDat := zh (fun (W : World) (hR : Touch (fun b => (Value.slice pa na ca).ownBlock = some b ∨ W2.heap.size ≤ b) W2.drew W) => (show RdB W (.slice pd le.length cd) le from
              Hda.out.rd.same fun x e hne => by
               have hx := HR0.out x (Hda.out.foot x e hne)
               rw [hR.block x (by show x < W2.heap.size; omega) (fun e => e.elim (fun e => by have := (Hug.out _ e).1; omega) (fun e => by omega))]
               exact HB2.out.block x (by omega)))
             apply RegT.wpIn_region_T rfl _ 5 rfl (by kernel_rfl) (by kernel_rfl) (by rintro ⟨a, w, h⟩; exact h) (RegR (.slice pa na ca) (fun b => w4.heap.size + 2 ≤ b) W2.heap.size ((ss.drop k).take j)) (RegR.refl _ _ _ _) (RegR.trans _ _ _ _)
             · apply RegT.T_pure (v := .slice pa na ca) rfl rfl rfl
               · intro W hR
                 have hc := one_cell (Hcell.out W hR.1)
                 clear hR
                 go_simp
               simp only [Nat.reduceAdd]
               apply RegT.T_pure (v := .agg #[.int .u64 (t : Int), .slice pd le.length cd]) rfl rfl rfl
               · exact fun W hR => load_ent (.tmp 18) rfl rfl (Hent.out W hR.1)
               simp only [Nat.reduceAdd]
               apply RegT.T_predC rfl rfl rfl 3 (CopyOf t le W2.heap.size) (RegR.grow _ _ _ _) (fun y x z hR h => h.keeps hR.block)
               · intro W hR hf
                 have hsz := hR.1.size
                 have Hc := zh (copied_w t (.slice pd le.length cd) le W (HDat.out W hR.1) (by omega))
                 clear hR hf
                 go_simp
                 exact RegT.OpOK_enter Hc.out (fun e w' ⟨p, c, he, hd, hB⟩ => ⟨_, he, ⟨p, c, rfl, hd.mono fun b _ hb => Nat.le_trans hsz hb⟩, hB⟩)
               intro v2
               simp only [Nat.reduceAdd]
               apply RegT.T_predC rfl rfl rfl 4 (RowOf t le W2.heap.size) (RegR.grow _ _ _ _) (fun y x z hR h => h.keeps hR.block)
               · intro W hR hf
                 obtain ⟨p, c, rfl, hd⟩ := hf _ (.head _) (by kernel_rfl) (.inr rfl)
                 clear hR hf
                 go_simp
                 exact RegT.OpOK_value ⟨⟨_, p, c, rfl, EntAt.new _ _ _, hd.keeps ((Keeps.refl W).alloc _)⟩, (Below.refl _ _).alloc (Nat.le_refl _) _⟩
               intro v3
               simp only [Nat.reduceAdd]
               apply RegT.T_write rfl rfl rfl none (fun y W => EsG W (fun b => w4.heap.size + 2 ≤ b) 53 y ((ss.drop k).take (j + 1))) (fun y x z hR h => h.keeps hR.block)
               · intro W hR hf
                 obtain ⟨N, p, c, rfl, he, hd⟩ := hf _ (.head _) (by kernel_rfl) (.inr rfl)
                 have hsz : W2.heap.size ≤ W.heap.size := hR.1.size
                 obtain ⟨v', w', hr, ho', hg, _, hold⟩ := run_append_esg (P := Try.prog) (ty := 28) (c := 1) (S' := fun b => w4.heap.size + 2 ≤ b) helE (hR.2 (HE2.out.keeps (Keeps.refl W2).drew)) (EsC.cons Htl.out (hd.mono fun b _ hb => (⟨Nat.le_trans hw2s hb, fun e => by have hb2 : W2.heap.size ≤ b := hb; have := (Hug.out b e).2; omega⟩ : (w4.heap.size + 2 ≤ b) ∧ (Value.slice pa na ca).ownBlock ≠ some b)) .nil) (.inr ⟨⟨N, 0, none⟩, rfl, ent_cells he⟩)
                  (by rw [List.length_take, List.length_drop]; unfold maxLen; simp; omega) (by rw [List.length_take, List.length_drop]; simp; omega) (fun b hb => hb) (Nat.le_trans hw2s hsz)
                 refine append_ok (.tmp 97) (.tmp 100) rfl rfl rfl hr ⟨?_, ⟨Touch.of_grownBy hg fun b e => .inl e, fun _ => hold⟩⟩
                 rw [Hes.out]; exact ho'
               intro v4
               simp only [Nat.reduceAdd]
               refine RegT.T_tail (fun W hR hf => ?_)
               have hy : EsG W (fun b => w4.heap.size + 2 ≤ b) 53 v4 ((ss.drop k).take (j + 1)) := hf _ (.head _) (.inl rfl)
               obtain ⟨p8, n8, c8, rfl⟩ : ∃ p n c, v4 = .slice p n c := by obtain ⟨p, c, e⟩ := hy.form; exact ⟨p, _, c, e⟩
               have Hy := zh hy
               have hsame : ∀ b, b < wr.heap.size → ¬ (w4.heap.size + 2 ≤ b) → W.heap[b]? = wr.heap[b]? := fun b hb hn => by
                rw [hR.1.block b (by show b < W2.heap.size; omega) (fun e => e.elim (fun e => by have := (Hug.out _ e).1; omega) (fun e => by omega))]
                exact HB2.out.block b hb
               have HMW := zh (show MtAt W w.heap.size g (.slice (some ⟨b, off, none⟩) ss.length c0) pk (.slice pa na ca) from HMr.out.same fun b hb => hsame b (by omega) (by omega))
               have HBW := zh (show Below w.heap.size w W from HBr.out.trans ⟨hR.1.os.trans HB2.out.os, hR.1.tape.trans HB2.out.tape, hR.1.output.trans HB2.out.output, Nat.le_trans HB2.out.size hR.1.size, fun b hb => hsame b (by omega) (by omega)⟩)
               have HRW := zh (show Recs w4.heap.size wr W from ⟨hsame _ (by omega) (by omega), hsame _ (by omega) (by omega)⟩)
               have HsW := zh (show w4.heap.size + 2 ≤ W.heap.size from Nat.le_trans hw2s hR.1.size)
               have hc2 := one_cell HMW.out.a
               have hf2 := one_frozen HMW.out.a
               clear hR hf hy hsame
               simp only [List.drop_succ_cons, List.drop_zero]
               go_wp2
               gi_wp2
               go_roundw
               case rel =>
                first
                 | (refine ⟨j + 1, _, by omega, by go_num, zh (HMW.out.puta _), zh (Hy.out.frame fun x hx => Below.heap_setCell _ _ _ _ (by have hx' : w4.heap.size + 2 ≤ x := hx; simp; omega)), zh (HBW.out.setCell (p := ⟨w.heap.size + 1 + 1 + 1, 0, none⟩) (by show w.heap.size ≤ w.heap.size + 1 + 1 + 1; omega) _), zh ((HRr.out.trans HRW.out).trans ⟨Below.heap_setCell _ _ _ _ (by simp; omega), Below.heap_setCell _ _ _ _ (by simp; omega)⟩), zh (by have := HsW.out; simpa [World.setCell] using this)⟩)
                 | (refine ⟨_, _, _, _, _, _, _, _, _, _, _, ?_, rfl⟩; refine ⟨j + 1, _, by omega, by go_num, zh (HMW.out.puta _), zh (Hy.out.frame fun x hx => Below.heap_setCell _ _ _ _ (by have hx' : w4.heap.size + 2 ≤ x := hx; simp; omega)), zh (HBW.out.setCell (p := ⟨w.heap.size + 1 + 1 + 1, 0, none⟩) (by show w.heap.size ≤ w.heap.size + 1 + 1 + 1; omega) _), zh ((HRr.out.trans HRW.out).trans ⟨Below.heap_setCell _ _ _ _ (by simp; omega), Below.heap_setCell _ _ _ _ (by simp; omega)⟩), zh (by have := HsW.out; simpa [World.setCell] using this)⟩)
               case measure => simp [intOf]; omega
             · rfl
             · kernel_rfl
           · have hjm : j = m := by omega
             gi_wp2
             have hE := HEr.out
             rw [hjm, List.take_of_length_le (by rw [List.length_drop]; have := Hmm.out; omega)] at hE
             have hM := HMr.out
             rw [Hpk.out] at hM
             exact ⟨rfl, HRr.out, Hm.out, hmiss, av, hM, hE, HBr.out⟩
     case done0 =>
      rintro W ⟨h1, h2, h3⟩ hD
      have hge : w.heap.size + 6 ≤ w4.heap.size := by omega
      obtain ⟨-, -, k3⟩ := HF.out W h2
      have hBW : Below w.heap.size w W := hB4.trans (h2.below (B := w.heap.size) (by omega) (fun b hb => by omega))
      have HK3 := zh k3
      have HBW := zh hBW
      have HD := zh hD
      rw [find_none h1, ← HLe.out] at HQ
      have f2 := one_cell k3.k
      have f3 := one_frozen k3.k
      have f4 := one_cell k3.a
      have f5 := one_frozen k3.a
      clear h1 h2 h3 k3 hBW hD hB4s hs4 hs3
      go_wp2
      go_region
      all_goals go_wp2
      rw [Exit.noGoto_ret, ← HQ.out]
      have hD2 : ((W.setCell ⟨w.heap.size + 1 + 1, 0, none⟩ (.int .u64 (L : Int))).setCell ⟨w.heap.size + 1 + 1 + 1, 0, none⟩ (.slice none 0 0)).drew.heap[w4.heap.size]? = some (.deferred (some [])) := by
       show (World.setCell _ _ _).heap[w4.heap.size]? = _
       rw [Below.heap_setCell _ _ _ _ (by simp; omega), Below.heap_setCell _ _ _ _ (by simp; omega)]; exact HD.out
      refine ⟨by simp, .inl ⟨_, _, rfl, run_takeDeferred hD2, ?_⟩⟩
      have hfin := ((HK3.out.putk L).puta (.slice none 0 0)).same (W' := ((W.setCell ⟨w.heap.size + 1 + 1, 0, none⟩ (.int .u64 (L : Int))).setCell ⟨w.heap.size + 1 + 1 + 1, 0, none⟩ (.slice none 0 0)).drew.putObj w4.heap.size (.deferred none)) (fun b hb => World.putObj_heap_other (by omega))
      exact ⟨_, results_cct rfl _ _ _ _ _ _ _ rfl rfl rfl hfin.k hfin.a, _, rfl, .inl ⟨rfl, rfl⟩, ((HBW.out.setCell (p := ⟨w.heap.size + 1 + 1, 0, none⟩) (by show w.heap.size ≤ w.heap.size + 1 + 1; omega) _).setCell (p := ⟨w.heap.size + 1 + 1 + 1, 0, none⟩) (by show w.heap.size ≤ w.heap.size + 1 + 1 + 1; omega) _).drew.trans ⟨rfl, rfl, rfl, by simp [World.putObj], fun b hb => World.putObj_heap_other (by omega)⟩⟩
     case stop0 =>
      rintro k W hkN ⟨h1, h2, av, k3, h4, h5⟩ hD
      have hge : w.heap.size + 6 ≤ w4.heap.size := by omega
      obtain ⟨pa, na, ca, rfl⟩ : ∃ p n c, av = .slice p n c := by obtain ⟨p, c, e⟩ := h4.form; exact ⟨p, _, c, e⟩
      obtain ⟨pk, hpk⟩ : ∃ x, x = prev + k := ⟨_, rfl⟩
      rw [← hpk] at k3
      have HK3 := zh k3
      have HBW := zh h5
      have HE := zh h4
      have HD := zh hD
      rw [find_first h2 h1 _ hkN] at HQ
      simp only [] at HQ
      rw [← hpk] at HQ
      have f2 := one_cell k3.k
      have f3 := one_frozen k3.k
      have f4 := one_cell k3.a
      have f5 := one_frozen k3.a
      clear h1 h2 h4 h5 k3 hD hB4s hpk hkN hs4 hs3
      refine wpIn_wide.2 ?_
      go_wp2
      go_region
      all_goals go_wp2
      rw [Exit.noGoto_ret, ← HQ.out]
      have hD2 : ((W.setCell ⟨w.heap.size + 1 + 1, 0, none⟩ (.int .u64 (pk : Int))).setCell ⟨w.heap.size + 1 + 1 + 1, 0, none⟩ (.slice pa na ca)).drew.heap[w4.heap.size]? = some (.deferred (some [])) := by
       show (World.setCell _ _ _).heap[w4.heap.size]? = _
       rw [Below.heap_setCell _ _ _ _ (by simp; omega), Below.heap_setCell _ _ _ _ (by simp; omega)]; exact HD.out
      refine ⟨by simp, .inl ⟨_, _, rfl, run_takeDeferred hD2, ?_⟩⟩
      have hfin := ((HK3.out.putk pk).puta (.slice pa na ca)).same (W' := ((W.setCell ⟨w.heap.size + 1 + 1, 0, none⟩ (.int .u64 (pk : Int))).setCell ⟨w.heap.size + 1 + 1 + 1, 0, none⟩ (.slice pa na ca)).drew.putObj w4.heap.size (.deferred none)) (fun b hb => World.putObj_heap_other (by omega))
      refine ⟨_, results_cct rfl _ _ _ _ _ _ _ rfl rfl rfl hfin.k hfin.a, _, rfl, ?_, ((HBW.out.setCell (p := ⟨w.heap.size + 1 + 1, 0, none⟩) (by show w.heap.size ≤ w.heap.size + 1 + 1; omega) _).setCell (p := ⟨w.heap.size + 1 + 1 + 1, 0, none⟩) (by show w.heap.size ≤ w.heap.size + 1 + 1 + 1; omega) _).drew.trans ⟨rfl, rfl, rfl, by simp [World.putObj], fun b hb => World.putObj_heap_other (by omega)⟩⟩
      refine ((HE.out.frame fun b hb => ?_).mono fun b _ hb => ?_)
      · have hb' : w4.heap.size + 2 ≤ b := hb
        rw [World.putObj_heap_other (by omega)]
        show (World.setCell _ _ _).heap[b]? = _
        rw [Below.heap_setCell _ _ _ _ (by simp; omega), Below.heap_setCell _ _ _ _ (by simp; omega)]
      · have hb' : w4.heap.size + 2 ≤ b := hb
        omega
   · have e1 : decide (prev < B) = false := by simp [hA1]
     clear hA
     go_quiet (fail)
     have Hterm := zh (termat_w S0 g B T v es prev (W0.drewN nq) (HT.out.keeps (Keeps.of_heap rfl)) hel hp)
     obtain ⟨at1, ok1, hat⟩ : ∃ x y, termAt B T es prev = (x, y) := ⟨_, _, rfl⟩
     rw [hat] at Hterm HQ
     obtain ⟨L, hL⟩ : ∃ L, L = B + es.length := ⟨_, rfl⟩
     have HLe := zh hL
     clear hL
     by_cases hc1 : B + es.length < prev
     · rw [if_pos (.inl hc1)] at HQ
       have e3 : decide (B + es.length < prev) = true := by simp [hc1]
       clear hat hc1
       rw [← HLe.out] at e3
       go_wp2_with (first
        | (go_at_call 28; refine (Hterm.out).mono ?_; rintro r w1 ⟨rfl, hB⟩; have HM1 := zh (HM.out.drew nq |>.below hB); have HT1 := zh ((HT.out.keeps (Keeps.of_heap (w' := W0.drewN nq) rfl)).keeps hB.block); have HB1 := zh ((HB.out.trans (c := W0.drewN nq) ⟨rfl, rfl, rfl, Nat.le_refl _, fun _ _ => rfl⟩).trans (hB.mono HB.out.size)); have hcell2 := one_cell HM1.out.t; have Hlast := zh (last_w S0 g B T v es w1 HT1.out); clear hB)
        | (go_at_call 76; rw [← HLe.out] at Hlast; refine (Hlast.out).mono ?_; rintro r w2 ⟨rfl, hB⟩; have HM2 := zh (HM1.out.below hB); have HB2 := zh (HB1.out.trans (hB.mono HB1.out.size)); have f2 := one_cell HM2.out.k; have f3 := one_frozen HM2.out.k; have f4 := one_cell HM2.out.a; have f5 := one_frozen HM2.out.a; clear hB))
       rw [← HQ.out]
       have hfin := ((HM2.out.putk 0).puta (.slice none 0 0))
       exact ⟨_, results_cct rfl _ _ _ _ _ _ _ rfl rfl rfl hfin.k hfin.a, _, rfl, .inl ⟨rfl, rfl⟩, (HB2.out.setCell (p := ⟨w.heap.size + 1 + 1, 0, none⟩) (by show w.heap.size ≤ w.heap.size + 1 + 1; omega) _).setCell (p := ⟨w.heap.size + 1 + 1 + 1, 0, none⟩) (by show w.heap.size ≤ w.heap.size + 1 + 1 + 1; omega) _⟩
     · obtain rfl : ok1 = true := by have h2 := congrArg Prod.snd hat; unfold termAt at h2; rw [if_neg (by omega)] at h2; have h3 : ok1 = _ := h2.symm; rw [h3]; split <;> rfl
       have e3 : decide (B + es.length < prev) = false := by simp; omega
       rw [← HLe.out] at e3
       by_cases hc2 : at1 = term
       · rw [if_neg (not_or.2 ⟨hc1, fun h => h.2 hc2⟩)] at HQ
         subst hc2
         have e4 : (at1 == at1) = true := by simp
         clear hat hc1
         go_wp2_with (first
          | (go_at_call 28; refine (Hterm.out).mono ?_; rintro r w1 ⟨rfl, hB⟩; have HM1 := zh (HM.out.drew nq |>.below hB); have HT1 := zh ((HT.out.keeps (Keeps.of_heap (w' := W0.drewN nq) rfl)).keeps hB.block); have HB1 := zh ((HB.out.trans (c := W0.drewN nq) ⟨rfl, rfl, rfl, Nat.le_refl _, fun _ _ => rfl⟩).trans (hB.mono HB.out.size)); have hcell2 := one_cell HM1.out.t; have Hlast := zh (last_w S0 g B T v es w1 HT1.out); clear hB)
          | (go_at_call 76; first | (rw [← HLe.out] at Hlast; refine (Hlast.out).mono ?_; rintro r w2 ⟨rfl, hB⟩; have HM2 := zh (HM1.out.below hB); have HT2 := zh (HT1.out.keeps hB.block); have HB2 := zh (HB1.out.trans (hB.mono HB1.out.size)); have f6 := one_cell HM2.out.t; have Hlast2 := zh (last_w S0 g B T v es w2 HT2.out); clear hB) | (rw [← HLe.out] at Hlast2; refine (Hlast2.out).mono ?_; rintro r w3 ⟨rfl, hB⟩; have HM3 := zh (HM2.out.below hB); have HT3 := zh (HT2.out.keeps hB.block); have HB3 := zh (HB2.out.trans (hB.mono HB2.out.size)); have f2 := one_cell HM3.out.k; have f3 := one_frozen HM3.out.k; have HM3k := zh (HM3.out.putk L); have f7 := one_cell HM3k.out.l; clear hB)))
         go_step3
         go_wp2_with (go_at_call 77; refine (placed_w prev (.slice p0 ss.length c0) rfl _).mono ?_; rintro r w4 ⟨rfl, hw4⟩; have HW4 := zh hw4; clear hw4)
         have hM4 : MtAt w4 w.heap.size g (.slice p0 ss.length c0) L (.slice none 0 0) := by rw [HW4.out]; exact (HM3k.out.below ((Below.refl _ _).alloc (Nat.le_refl _) _)).below ((Below.refl _ _).alloc (Nat.le_refl _) _)
         have hs3 : w.heap.size + 4 ≤ w3.heap.size := (Array.getElem?_eq_some_iff.1 HM3.out.a).1
         have hPl : PlAt w4 w3.heap.size (w3.heap.size + 1) prev (.slice p0 ss.length c0) := by
          rw [HW4.out]
          refine ⟨?_, ?_⟩
          · rw [heap_alloc_get, if_neg (by simp), heap_alloc_get, if_pos (by simp)]
          · rw [heap_alloc_get, if_pos (by simp)]
         have hs4 : w4.heap.size = w3.heap.size + 2 := by rw [HW4.out]; simp
         have hB4 : Below w.heap.size w w4 := by
          rw [HW4.out]
          exact ((HB3.out.setCell (p := ⟨w.heap.size + 1 + 1, 0, none⟩) (by show w.heap.size ≤ w.heap.size + 1 + 1; omega) _).alloc (by simp; omega) _).alloc (by simp; omega) _
         have hT4 : TkAt w4 S0 g B T v es := HT0w.out.frame fun b hb => hB4.block b (HS0.out b hb)
         have hR4 : EsR w4 R0 (.slice p0 ss.length c0) ss := Hr.out.frame fun b hb => hB4.block b (HR0.out b hb)
         clear hs0 hcell0 hcell1 hc0 hcell2 f6 f2 f3 f7
         have HF := zh (fun (W : World) (h : Touch (fun b => b = w3.heap.size) w4 W) => (show TkAt W S0 g B T v es ∧ EsR W R0 (.slice p0 ss.length c0) ss ∧ MtAt W w.heap.size g (.slice p0 ss.length c0) L (.slice none 0 0) from
          ⟨hT4.frame (h.same (fun b hb => by have := HS0.out b hb; omega) (fun b hb e => by have := HS0.out b hb; omega)),
           hR4.frame (h.same (fun b hb => by have := HR0.out b hb; omega) (fun b hb e => by have := HR0.out b hb; omega)),
           hM4.same (h.same (fun b hb => by omega) (fun b hb e => by omega))⟩))
         have hplc : SameOn (fun b => b = w3.heap.size ∨ b = w3.heap.size + 1) w4 w4 := SameOn.refl _ _
         obtain ⟨B4, hB4s⟩ : ∃ B4, w4.heap.size = B4 := ⟨_, rfl⟩
         have hBp : w3.heap.size < w4.heap.size := by omega
         refine wpIn_wide.1 (range_law (gf := 123) (lb := #[.pointer (some ⟨w3.heap.size + 1, 0, none⟩), .pointer (some ⟨w3.heap.size, 0, none⟩)]) rfl (enters_of Try.func123 (by kernel_rfl) rfl) hBp
          (placed_iter w4 prev w3.heap.size (w3.heap.size + 1) ss.length c0 p0 hp hnl (by omega) hPl) (fun _ => rfl) (fun h k => h.trans k) (fun W l o' hl b hb => World.putObj_heap_other (by omega)) (.exit 0) ⟨0, rfl⟩
          (fun k W => (∀ j, j < k → misses B T es prev ss j = false) ∧ Touch (fun b => b = w3.heap.size) w4 W ∧ w4.heap.size + 2 ≤ W.heap.size)
          (fun k W => misses B T es prev ss k = true ∧ (∀ j, j < k → misses B T es prev ss j = false) ∧ ∃ av, MtAt W w.heap.size g (.slice p0 ss.length c0) (prev + k) av ∧ EsG W (fun b => w4.heap.size + 2 ≤ b) 53 av (ss.drop k) ∧ Below w.heap.size w W)
          ?hI1 ?hIx1 ?hIw1 ?h01 ?a11 ?assign1 ?body1 ?done1 ?stop1)
         case assign1 =>
          intro l k W K hK
          gi_wp2
          exact hK
         case hIw1 =>
          rintro k A u ⟨h1, h2, h3⟩
          exact ⟨h1, h2.trans (Touch.of_grownBy (S := fun b => b = w3.heap.size) (Lib.grownBy_setCell A w3.heap.size 0 u) (fun b e => by cases e; rfl)) (fun b _ e => e), by simpa [World.setCell] using h3⟩
         case h01 =>
          intro W hB hs
          exact ⟨fun j hj => by omega, Touch.of_below hB, hs⟩
         case hI1 =>
          rintro k A l o' hl ⟨h1, h2, h3⟩
          refine ⟨h1, ⟨h2.os, h2.tape, h2.output, ?_, fun b hb hn => ?_⟩, ?_⟩
          · simpa [World.putObj] using h2.size
          · rw [World.putObj_heap_other (by omega)]; exact h2.block b hb hn
          · simpa [World.putObj] using h3
         case hIx1 =>
          rintro k A l o' hl ⟨h1, h2, av, h3, h4, h5⟩
          refine ⟨h1, h2, av, h3.same fun b hb => World.putObj_heap_other (by omega), h4.frame fun b hb => ?_, ?_⟩
          · have hb' : w4.heap.size + 2 ≤ b := hb
            exact World.putObj_heap_other (by omega)
          · exact h5.trans ⟨rfl, rfl, rfl, by simp [World.putObj], fun b hb => World.putObj_heap_other (by omega)⟩
         case body1 =>
          rintro l k W ⟨hmiss, hTo, hsz⟩ hkN hlw
          obtain ⟨k1, k2, k3⟩ := HF.out W hTo
          have f0 := one_cell k3.t
          have fb := k1.c0
          have fl := one_cell k3.l
          have hkn : k < ss.length := by unfold placedN at hkN; omega
          have hkt : prev + k + 1 < 2 ^ 64 := by unfold placedN at hkN; omega
          have HTm := zh (termat_w S0 g B T v es (prev + k + 1) W k1 hel hkt)
          have hx0 : (prev : Int) + (k : Int) + 1 = ((prev + k + 1 : Nat) : Int) := by omega
          rw [hx0]
          generalize hix : prev + k + 1 = ix at *
          have Hix := zh hix
          clear hix hx0
          by_cases hB : ix ≤ B
          · have e9 : decide (ix ≤ B) = true := by simp [hB]
            have hm : misses B T es prev ss k = false := by unfold misses; rw [Hix.out]; simp; omega
            gi_wp2
            exact ⟨Recs.refl _ _, SameOn.refl _ _, all_succ hmiss hm, hTo, hsz⟩
          · have e9 : decide (ix ≤ B) = false := by simp; omega
            obtain ⟨tt, okk, htt⟩ : ∃ x y, termAt B T es ix = (x, y) := ⟨_, _, rfl⟩
            have Htt := zh htt
            rw [htt] at HTm
            obtain ⟨b, off, c, hsv, hcell⟩ := k2.term k hkn
            cases hsv
            have Hcell := zh hcell
            have hlb := block_lt_of_cell hcell
            have hgd : ss.getD k (0, []) = ss[k] := by simp [List.getD, List.getElem?_eq_getElem hkn]
            obtain ⟨t0, ht0⟩ : ∃ x, ss[k].1 = x := ⟨_, rfl⟩
            rw [ht0] at hcell Hcell
            have Hms := zh (show misses B T es prev ss k = (!okk || decide (tt ≠ t0)) by unfold misses; rw [Hix.out, Htt.out, hgd, ht0]; simp; omega)
            clear htt hgd ht0 hcell
            by_cases hno : okk = true ∧ tt = t0
            · obtain ⟨rfl, rfl⟩ := hno
              have hm : misses B T es prev ss k = false := by rw [Hms.out]; simp
              have e8 : (tt == tt) = true := by simp
              gi_wp2_with (refine ⟨trivial, rfl, ?_⟩; gi_at_call 28; refine (CallsIn.inRound l (callsIn_wide.2 HTm.out)).mono ?_; rintro r w5 ⟨rfl, hB⟩; have HB5 := zh hB; have g0 := one_cell (hB.block _ (Array.getElem?_eq_some_iff.1 k3.l).1 |>.trans k3.l); have g1 := (hB.cell (p := ⟨b, off + k * 2, none⟩) hlb).trans Hcell.out; clear hB)
              exact ⟨Recs.keeps HB5.out.block hlw, fun x hx => HB5.out.block x (by have := hTo.size; omega), all_succ hmiss hm, hTo.trans (Touch.of_below HB5.out) (S1 := fun b => b = w3.heap.size) (fun b _ e => e), Nat.le_trans hsz HB5.out.size⟩
            · have hm : misses B T es prev ss k = true := by rw [Hms.out]; cases okk <;> simp_all
              have Hm := zh hm
              have hok : okk = false ∨ (okk = true ∧ decide (tt = t0) = false ∧ (tt == t0) = false) := by cases okk <;> simp_all
              obtain ⟨pk, hpk⟩ : ∃ x, x = prev + k := ⟨_, rfl⟩
              have e10 : IntKind.u64.wrap ((ix : Int) - 1) = (pk : Int) := by have := Hix.out; rw [IntWalk.u64_in _ (by omega)]; omega
              have Hpk := zh hpk
              have hcap : ss.length ≤ c0 := by obtain ⟨p, c', xs, e, q, _⟩ := k2; cases e; exact q
              obtain ⟨m, hmm⟩ : ∃ m, m = ss.length - k := ⟨_, rfl⟩
              obtain ⟨cm, hcm⟩ : ∃ cm, cm = c0 - k := ⟨_, rfl⟩
              have hsl : ∀ x : World, (Instr.sliceAt 28 (.slice (some ⟨b, off, none⟩) ss.length c0) (some (.int .i64 (k : Int))) none none).run Try.prog x = .ok (.slice (some ⟨b, off + k * 2, none⟩) m cm) x := fun x => by
               rw [run_slice_lo (P := Try.prog) 28 53 Try.underlying28 2 (by kernel_rfl) (some ⟨b, off, none⟩) ss.length c0 k (by omega) x, if_neg (by omega), hmm, hcm]
               simp [Addr.add_mid]
              have Hmm := zh hmm
              have hm6 : m ≤ 1000000 := by omega
              clear hmm hcm
              clear hm hpk hno
              rcases hok with rfl | ⟨rfl, e11, e12⟩
              all_goals gi_wp2_with (first
               | (refine ⟨trivial, rfl, ?_⟩; gi_at_call 28; refine (CallsIn.inRound l (callsIn_wide.2 HTm.out)).mono ?_; rintro r w5 ⟨rfl, hB⟩; have HB5 := zh hB; have HM5 := zh (k3.below hB); have g0 := one_cell HM5.out.l; have g1 := (hB.cell (p := ⟨b, off + k * 2, none⟩) hlb).trans Hcell.out; have g2 := one_cell HM5.out.k; have g3 := one_frozen HM5.out.k; have HM6 := zh (HM5.out.putk pk); have g4 := one_cell HM6.out.l; clear hB))
              all_goals try simp only [bne]
              all_goals have HRc0 := zh (show Recs w4.heap.size W (w5.setCell ⟨w.heap.size + 1 + 1, 0, none⟩ (.int .u64 (pk : Int))) from
               (Recs.keeps HB5.out.block hlw).trans ⟨Below.heap_setCell _ _ _ _ (by simp; omega), Below.heap_setCell _ _ _ _ (by simp; omega)⟩)
              all_goals have HBw := zh (show Below w.heap.size w (w5.setCell ⟨w.heap.size + 1 + 1, 0, none⟩ (.int .u64 (pk : Int))) from
               ((hB4.trans (hTo.below (B := w.heap.size) (by omega) (fun b hb => by omega))).trans (HB5.out.mono (by omega))).setCell (p := ⟨w.heap.size + 1 + 1, 0, none⟩) (by show w.heap.size ≤ w.heap.size + 1 + 1; omega) _)
              all_goals have Hsz := zh (show w4.heap.size + 2 ≤ (w5.setCell ⟨w.heap.size + 1 + 1, 0, none⟩ (.int .u64 (pk : Int))).heap.size from by have := HB5.out.size; simp [World.setCell]; omega)
              all_goals gi_loopw [93] (fun i wr => ∃ (j : Nat) (av : Value), j ≤ m ∧ i = .int .i64 (j : Int) ∧ Hid (MtAt wr w.heap.size g (.slice (some ⟨b, off, none⟩) ss.length c0) pk av) ∧ Hid (EsG wr (fun b => w4.heap.size + 2 ≤ b) 53 av ((ss.drop k).take j)) ∧ Hid (Below w.heap.size w wr) ∧ Hid (Recs w4.heap.size W wr) ∧ Hid (w4.heap.size + 2 ≤ wr.heap.size)) (fun i _ => m - (intOf i).toNat)
              case atStart => exact ⟨0, .slice none 0 0, Nat.zero_le _, rfl, HM6, zh (.inl ⟨rfl, rfl⟩), HBw, HRc0, Hsz⟩
              case atStart => exact ⟨0, .slice none 0 0, Nat.zero_le _, rfl, HM6, zh (.inl ⟨rfl, rfl⟩), HBw, HRc0, Hsz⟩
              case round =>
               obtain ⟨j, av, hj, rfl, HMr, HEr, HBr, HRr, Hszr⟩ := hrel
               have mk := one_cell HMr.out.a
               by_cases hlt : j < m
               · have hkj : k + j < ss.length := by have := Hmm.out; omega
                 have hRr : EsR wr R0 (.slice (some ⟨b, off, none⟩) ss.length c0) ss := Hr.out.frame fun x hx => HBr.out.block x (HR0.out x hx)
                 obtain ⟨b2, off2, n2, c2, d, hsv, hnn, hrange, hda, htl⟩ := hRr.elem (k + j) hkj
                 cases hsv
                 have Hra := zh (show wr.rangeAt b (off + k * 2 + j * 2) [.int .u64 ((ss[k + j].1 : Nat) : Int), d] by rw [show off + k * 2 + j * 2 = off + (k + j) * 2 by omega]; exact hrange)
                 have Hda := zh hda
                 have Htl := zh htl
                 have Hes := zh (show (ss.drop k).take (j + 1) = (ss.drop k).take j ++ [(ss[k + j].1, ss[k + j].2)] by
                  rw [List.take_succ_eq_append_getElem (by rw [List.length_drop]; omega)]; simp)
                 have hll := Hl.out ss[k + j] (List.getElem_mem _)
                 have HZ := zh (heap_alloc_new wr (.cells #[.int .u64 0, .slice none 0 0] 53))
                 generalize ss[k + j].1 = t at *
                 generalize ss[k + j].2 = le at *
                 obtain ⟨pd, cd, rfl⟩ : ∃ p c, d = .slice p le.length c := by obtain ⟨p, c, h1, _⟩ := hda.rd; exact ⟨p, c, h1⟩
                 obtain ⟨pa, na, ca, rfl⟩ : ∃ p n c, av = .slice p n c := by obtain ⟨p, c, e⟩ := HEr.out.form; exact ⟨p, _, c, e⟩
                 obtain ⟨W2, HW2, hE, hB2⟩ := stored53 wr t (.slice pd le.length cd)
                 have HE := zh hE
                 have HB2 := zh hB2
                 have HM2r := zh (HMr.out.below hB2)
                 have mk2 := one_cell HM2r.out.a
                 have me0 := hE.at0
                 have me1 := hE.at1
                 clear hrange hda htl hE hB2 hRr hnn hkj
                 gi_wp2_with (first
                  | (refine wpListIn_exec (fun _ => trivial) rfl (fun c h => by cases h) (exec_load53 (.tmp 95) rfl rfl Hra.out) ?_)
                  | (refine wpListIn_exec (fun _ => trivial) rfl (fun c h => by cases h) (exec_alloc53 rfl) ?_)
                  | (refine wpListIn_exec_skip (fun _ => trivial) rfl (fun c h => by cases h) rfl (exec_store53 (.tmp 18) (.tmp 96) rfl rfl rfl HZ.out) ?_; rw [HW2.out]))
                 have HE2 := zh (HEr.out.keeps HB2.out.block)
                 have hN : w.heap.size + 1 + 1 + 1 < wr.heap.size := (Array.getElem?_eq_some_iff.1 HMr.out.a).1
                 have hszr := Hszr.out
                 have hw2s : w4.heap.size + 2 ≤ W2.heap.size := Nat.le_trans hszr HB2.out.size
                 have hNlt : wr.heap.size < W2.heap.size := HE.out.lt
                 have hug : ∀ x, (Value.slice pa na ca).ownBlock = some x → w4.heap.size + 2 ≤ x ∧ x < wr.heap.size := fun x e => HEr.out.foot x e
                 have Hug := zh hug
                 clear hug
                 have Hcell := zh (fun (W : World) (hR : Touch (fun b => (Value.slice pa na ca).ownBlock = some b ∨ W2.heap.size ≤ b) W2.drew W) => (show W.heap[w.heap.size + 1 + 1 + 1]? = some (.cells #[.slice pa na ca] 28) from by
                  rw [hR.block _ (by show w.heap.size + 1 + 1 + 1 < W2.heap.size; omega) (fun e => e.elim (fun e => by have := (Hug.out _ e).1; omega) (fun e => by omega))]
                  exact HM2r.out.a))
                 have Hent := zh (fun (W : World) (hR : Touch (fun b => (Value.slice pa na ca).ownBlock = some b ∨ W2.heap.size ≤ b) W2.drew W) => (show EntAt W wr.heap.size t (.slice pd le.length cd) from by
                  unfold EntAt
                  rw [hR.block _ hNlt (fun e => e.elim (fun e => by have := (Hug.out _ e).2; omega) (fun e => by omega))]
                  exact HE.out))
                 have HDat := zh (fun (W : World) (hR : Touch (fun b => (Value.slice pa na ca).ownBlock = some b ∨ W2.heap.size ≤ b) W2.drew W) => (show RdB W (.slice pd le.length cd) le from
                  Hda.out.rd.same fun x e hne => by
                   have hx := HR0.out x (Hda.out.foot x e hne)
                   rw [hR.block x (by show x < W2.heap.size; omega) (fun e => e.elim (fun e => by have := (Hug.out _ e).1; omega) (fun e => by omega))]
                   exact HB2.out.block x (by omega)))
                 apply RegT.wpIn_region_T rfl _ 5 rfl (by kernel_rfl) (by kernel_rfl) (by rintro ⟨a, w, h⟩; exact h) (RegR (.slice pa na ca) (fun b => w4.heap.size + 2 ≤ b) W2.heap.size ((ss.drop k).take j)) (RegR.refl _ _ _ _) (RegR.trans _ _ _ _)
                 · apply RegT.T_pure (v := .slice pa na ca) rfl rfl rfl
                   · intro W hR
                     have hc := one_cell (Hcell.out W hR.1)
                     clear hR
                     go_simp
                   simp only [Nat.reduceAdd]
                   apply RegT.T_pure (v := .agg #[.int .u64 (t : Int), .slice pd le.length cd]) rfl rfl rfl
                   · exact fun W hR => load_ent (.tmp 18) rfl rfl (Hent.out W hR.1)
                   simp only [Nat.reduceAdd]
                   apply RegT.T_predC rfl rfl rfl 3 (CopyOf t le W2.heap.size) (RegR.grow _ _ _ _) (fun y x z hR h => h.keeps hR.block)
                   · intro W hR hf
                     have hsz := hR.1.size
                     have Hc := zh (copied_w t (.slice pd le.length cd) le W (HDat.out W hR.1) (by omega))
                     clear hR hf
                     go_simp
                     exact RegT.OpOK_enter Hc.out (fun e w' ⟨p, c, he, hd, hB⟩ => ⟨_, he, ⟨p, c, rfl, hd.mono fun b _ hb => Nat.le_trans hsz hb⟩, hB⟩)
                   intro v2
                   simp only [Nat.reduceAdd]
                   apply RegT.T_predC rfl rfl rfl 4 (RowOf t le W2.heap.size) (RegR.grow _ _ _ _) (fun y x z hR h => h.keeps hR.block)
                   · intro W hR hf
                     obtain ⟨p, c, rfl, hd⟩ := hf _ (.head _) (by kernel_rfl) (.inr rfl)
                     clear hR hf
                     go_simp
                     exact RegT.OpOK_value ⟨⟨_, p, c, rfl, EntAt.new _ _ _, hd.keeps ((Keeps.refl W).alloc _)⟩, (Below.refl _ _).alloc (Nat.le_refl _) _⟩
                   intro v3
                   simp only [Nat.reduceAdd]
                   apply RegT.T_write rfl rfl rfl none (fun y W => EsG W (fun b => w4.heap.size + 2 ≤ b) 53 y ((ss.drop k).take (j + 1))) (fun y x z hR h => h.keeps hR.block)
                   · intro W hR hf
                     obtain ⟨N, p, c, rfl, he, hd⟩ := hf _ (.head _) (by kernel_rfl) (.inr rfl)
                     have hsz : W2.heap.size ≤ W.heap.size := hR.1.size
                     obtain ⟨v', w', hr, ho', hg, _, hold⟩ := run_append_esg (P := Try.prog) (ty := 28) (c := 1) (S' := fun b => w4.heap.size + 2 ≤ b) helE (hR.2 (HE2.out.keeps (Keeps.refl W2).drew)) (EsC.cons Htl.out (hd.mono fun b _ hb => (⟨Nat.le_trans hw2s hb, fun e => by have hb2 : W2.heap.size ≤ b := hb; have := (Hug.out b e).2; omega⟩ : (w4.heap.size + 2 ≤ b) ∧ (Value.slice pa na ca).ownBlock ≠ some b)) .nil) (.inr ⟨⟨N, 0, none⟩, rfl, ent_cells he⟩)
                      (by rw [List.length_take, List.length_drop]; unfold maxLen; simp; omega) (by rw [List.length_take, List.length_drop]; simp; omega) (fun b hb => hb) (Nat.le_trans hw2s hsz)
                     refine append_ok (.tmp 97) (.tmp 100) rfl rfl rfl hr ⟨?_, ⟨Touch.of_grownBy hg fun b e => .inl e, fun _ => hold⟩⟩
                     rw [Hes.out]; exact ho'
                   intro v4
                   simp only [Nat.reduceAdd]
                   refine RegT.T_tail (fun W hR hf => ?_)
                   have hy : EsG W (fun b => w4.heap.size + 2 ≤ b) 53 v4 ((ss.drop k).take (j + 1)) := hf _ (.head _) (.inl rfl)
                   obtain ⟨p8, n8, c8, rfl⟩ : ∃ p n c, v4 = .slice p n c := by obtain ⟨p, c, e⟩ := hy.form; exact ⟨p, _, c, e⟩
                   have Hy := zh hy
                   have hsame : ∀ b, b < wr.heap.size → ¬ (w4.heap.size + 2 ≤ b) → W.heap[b]? = wr.heap[b]? := fun b hb hn => by
                    rw [hR.1.block b (by show b < W2.heap.size; omega) (fun e => e.elim (fun e => by have := (Hug.out _ e).1; omega) (fun e => by omega))]
                    exact HB2.out.block b hb
                   have HMW := zh (show MtAt W w.heap.size g (.slice (some ⟨b, off, none⟩) ss.length c0) pk (.slice pa na ca) from HMr.out.same fun b hb => hsame b (by omega) (by omega))
                   have HBW := zh (show Below w.heap.size w W from HBr.out.trans ⟨hR.1.os.trans HB2.out.os, hR.1.tape.trans HB2.out.tape, hR.1.output.trans HB2.out.output, Nat.le_trans HB2.out.size hR.1.size, fun b hb => hsame b (by omega) (by omega)⟩)
                   have HRW := zh (show Recs w4.heap.size wr W from ⟨hsame _ (by omega) (by omega), hsame _ (by omega) (by omega)⟩)
                   have HsW := zh (show w4.heap.size + 2 ≤ W.heap.size from Nat.le_trans hw2s hR.1.size)
                   have hc2 := one_cell HMW.out.a
                   have hf2 := one_frozen HMW.out.a
                   clear hR hf hy hsame
                   simp only [List.drop_succ_cons, List.drop_zero]
                   go_wp2
                   gi_wp2
                   go_roundw
                   case rel =>
                    first
                     | (refine ⟨j + 1, _, by omega, by go_num, zh (HMW.out.puta _), zh (Hy.out.frame fun x hx => Below.heap_setCell _ _ _ _ (by have hx' : w4.heap.size + 2 ≤ x := hx; simp; omega)), zh (HBW.out.setCell (p := ⟨w.heap.size + 1 + 1 + 1, 0, none⟩) (by show w.heap.size ≤ w.heap.size + 1 + 1 + 1; omega) _), zh ((HRr.out.trans HRW.out).trans ⟨Below.heap_setCell _ _ _ _ (by simp; omega), Below.heap_setCell _ _ _ _ (by simp; omega)⟩), zh (by have := HsW.out; simpa [World.setCell] using this)⟩)
                     | (refine ⟨_, _, _, _, _, _, _, _, _, _, _, ?_, rfl⟩; refine ⟨j + 1, _, by omega, by go_num, zh (HMW.out.puta _), zh (Hy.out.frame fun x hx => Below.heap_setCell _ _ _ _ (by have hx' : w4.heap.size + 2 ≤ x := hx; simp; omega)), zh (HBW.out.setCell (p := ⟨w.heap.size + 1 + 1 + 1, 0, none⟩) (by show w.heap.size ≤ w.heap.size + 1 + 1 + 1; omega) _), zh ((HRr.out.trans HRW.out).trans ⟨Below.heap_setCell _ _ _ _ (by simp; omega), Below.heap_setCell _ _ _ _ (by simp; omega)⟩), zh (by have := HsW.out; simpa [World.setCell] using this)⟩)
                   case measure => simp [intOf]; omega
                 · rfl
                 · kernel_rfl
               · have hjm : j = m := by omega
                 gi_wp2
                 have hE := HEr.out
                 rw [hjm, List.take_of_length_le (by rw [List.length_drop]; have := Hmm.out; omega)] at hE
                 have hM := HMr.out
                 rw [Hpk.out] at hM
                 exact ⟨rfl, HRr.out, Hm.out, hmiss, av, hM, hE, HBr.out⟩
              case round =>
               obtain ⟨j, av, hj, rfl, HMr, HEr, HBr, HRr, Hszr⟩ := hrel
               have mk := one_cell HMr.out.a
               by_cases hlt : j < m
               · have hkj : k + j < ss.length := by have := Hmm.out; omega
                 have hRr : EsR wr R0 (.slice (some ⟨b, off, none⟩) ss.length c0) ss := Hr.out.frame fun x hx => HBr.out.block x (HR0.out x hx)
                 obtain ⟨b2, off2, n2, c2, d, hsv, hnn, hrange, hda, htl⟩ := hRr.elem (k + j) hkj
                 cases hsv
                 have Hra := zh (show wr.rangeAt b (off + k * 2 + j * 2) [.int .u64 ((ss[k + j].1 : Nat) : Int), d] by rw [show off + k * 2 + j * 2 = off + (k + j) * 2 by omega]; exact hrange)
                 have Hda := zh hda
                 have Htl := zh htl
                 have Hes := zh (show (ss.drop k).take (j + 1) = (ss.drop k).take j ++ [(ss[k + j].1, ss[k + j].2)] by
                  rw [List.take_succ_eq_append_getElem (by rw [List.length_drop]; omega)]; simp)
                 have hll := Hl.out ss[k + j] (List.getElem_mem _)
                 have HZ := zh (heap_alloc_new wr (.cells #[.int .u64 0, .slice none 0 0] 53))
                 generalize ss[k + j].1 = t at *
                 generalize ss[k + j].2 = le at *
                 obtain ⟨pd, cd, rfl⟩ : ∃ p c, d = .slice p le.length c := by obtain ⟨p, c, h1, _⟩ := hda.rd; exact ⟨p, c, h1⟩
                 obtain ⟨pa, na, ca, rfl⟩ : ∃ p n c, av = .slice p n c := by obtain ⟨p, c, e⟩ := HEr.out.form; exact ⟨p, _, c, e⟩
                 obtain ⟨W2, HW2, hE, hB2⟩ := stored53 wr t (.slice pd le.length cd)
                 have HE := zh hE
                 have HB2 := zh hB2
                 have HM2r := zh (HMr.out.below hB2)
                 have mk2 := one_cell HM2r.out.a
                 have me0 := hE.at0
                 have me1 := hE.at1
                 clear hrange hda htl hE hB2 hRr hnn hkj
                 gi_wp2_with (first
                  | (refine wpListIn_exec (fun _ => trivial) rfl (fun c h => by cases h) (exec_load53 (.tmp 95) rfl rfl Hra.out) ?_)
                  | (refine wpListIn_exec (fun _ => trivial) rfl (fun c h => by cases h) (exec_alloc53 rfl) ?_)
                  | (refine wpListIn_exec_skip (fun _ => trivial) rfl (fun c h => by cases h) rfl (exec_store53 (.tmp 18) (.tmp 96) rfl rfl rfl HZ.out) ?_; rw [HW2.out]))
                 have HE2 := zh (HEr.out.keeps HB2.out.block)
                 have hN : w.heap.size + 1 + 1 + 1 < wr.heap.size := (Array.getElem?_eq_some_iff.1 HMr.out.a).1
                 have hszr := Hszr.out
                 have hw2s : w4.heap.size + 2 ≤ W2.heap.size := Nat.le_trans hszr HB2.out.size
                 have hNlt : wr.heap.size < W2.heap.size := HE.out.lt
                 have hug : ∀ x, (Value.slice pa na ca).ownBlock = some x → w4.heap.size + 2 ≤ x ∧ x < wr.heap.size := fun x e => HEr.out.foot x e
                 have Hug := zh hug
                 clear hug
                 have Hcell := zh (fun (W : World) (hR : Touch (fun b => (Value.slice pa na ca).ownBlock = some b ∨ W2.heap.size ≤ b) W2.drew W) => (show W.heap[w.heap.size + 1 + 1 + 1]? = some (.cells #[.slice pa na ca] 28) from by
                  rw [hR.block _ (by show w.heap.size + 1 + 1 + 1 < W2.heap.size; omega) (fun e => e.elim (fun e => by have := (Hug.out _ e).1; omega) (fun e => by omega))]
                  exact HM2r.out.a))
                 have Hent := zh (fun (W : World) (hR : Touch (fun b => (Value.slice pa na ca).ownBlock = some b ∨ W2.heap.size ≤ b) W2.drew W) => (show EntAt W wr.heap.size t (.slice pd le.length cd) from by
                  unfold EntAt
                  rw [hR.block _ hNlt (fun e => e.elim (fun e => by have := (Hug.out _ e).2; omega) (fun e => by omega))]
                  exact HE.out))
                 have HDat := zh (fun (W : World) (hR : Touch (fun b => (Value.slice pa na ca).ownBlock = some b ∨ W2.heap.size ≤ b) W2.drew W) => (show RdB W (.slice pd le.length cd) le from
                  Hda.out.rd.same fun x e hne => by
                   have hx := HR0.out x (Hda.out.foot x e hne)
                   rw [hR.block x (by show x < W2.heap.size; omega) (fun e => e.elim (fun e => by have := (Hug.out _ e).1; omega) (fun e => by omega))]
                   exact HB2.out.block x (by omega)))
                 apply RegT.wpIn_region_T rfl _ 5 rfl (by kernel_rfl) (by kernel_rfl) (by rintro ⟨a, w, h⟩; exact h) (RegR (.slice pa na ca) (fun b => w4.heap.size + 2 ≤ b) W2.heap.size ((ss.drop k).take j)) (RegR.refl _ _ _ _) (RegR.trans _ _ _ _)
                 · apply RegT.T_pure (v := .slice pa na ca) rfl rfl rfl
                   · intro W hR
                     have hc := one_cell (Hcell.out W hR.1)
                     clear hR
                     go_simp
                   simp only [Nat.reduceAdd]
                   apply RegT.T_pure (v := .agg #[.int .u64 (t : Int), .slice pd le.length cd]) rfl rfl rfl
                   · exact fun W hR => load_ent (.tmp 18) rfl rfl (Hent.out W hR.1)
                   simp only [Nat.reduceAdd]
                   apply RegT.T_predC rfl rfl rfl 3 (CopyOf t le W2.heap.size) (RegR.grow _ _ _ _) (fun y x z hR h => h.keeps hR.block)
                   · intro W hR hf
                     have hsz := hR.1.size
                     have Hc := zh (copied_w t (.slice pd le.length cd) le W (HDat.out W hR.1) (by omega))
                     clear hR hf
                     go_simp
                     exact RegT.OpOK_enter Hc.out (fun e w' ⟨p, c, he, hd, hB⟩ => ⟨_, he, ⟨p, c, rfl, hd.mono fun b _ hb => Nat.le_trans hsz hb⟩, hB⟩)
                   intro v2
                   simp only [Nat.reduceAdd]
                   apply RegT.T_predC rfl rfl rfl 4 (RowOf t le W2.heap.size) (RegR.grow _ _ _ _) (fun y x z hR h => h.keeps hR.block)
                   · intro W hR hf
                     obtain ⟨p, c, rfl, hd⟩ := hf _ (.head _) (by kernel_rfl) (.inr rfl)
                     clear hR hf
                     go_simp
                     exact RegT.OpOK_value ⟨⟨_, p, c, rfl, EntAt.new _ _ _, hd.keeps ((Keeps.refl W).alloc _)⟩, (Below.refl _ _).alloc (Nat.le_refl _) _⟩
                   intro v3
                   simp only [Nat.reduceAdd]
                   apply RegT.T_write rfl rfl rfl none (fun y W => EsG W (fun b => w4.heap.size + 2 ≤ b) 53 y ((ss.drop k).take (j + 1))) (fun y x z hR h => h.keeps hR.block)
                   · intro W hR hf
                     obtain ⟨N, p, c, rfl, he, hd⟩ := hf _ (.head _) (by kernel_rfl) (.inr rfl)
                     have hsz : W2.heap.size ≤ W.heap.size := hR.1.size
                     obtain ⟨v', w', hr, ho', hg, _, hold⟩ := run_append_esg (P := Try.prog) (ty := 28) (c := 1) (S' := fun b => w4.heap.size + 2 ≤ b) helE (hR.2 (HE2.out.keeps (Keeps.refl W2).drew)) (EsC.cons Htl.out (hd.mono fun b _ hb => (⟨Nat.le_trans hw2s hb, fun e => by have hb2 : W2.heap.size ≤ b := hb; have := (Hug.out b e).2; omega⟩ : (w4.heap.size + 2 ≤ b) ∧ (Value.slice pa na ca).ownBlock ≠ some b)) .nil) (.inr ⟨⟨N, 0, none⟩, rfl, ent_cells he⟩)
                      (by rw [List.length_take, List.length_drop]; unfold maxLen; simp; omega) (by rw [List.length_take, List.length_drop]; simp; omega) (fun b hb => hb) (Nat.le_trans hw2s hsz)
                     refine append_ok (.tmp 97) (.tmp 100) rfl rfl rfl hr ⟨?_, ⟨Touch.of_grownBy hg fun b e => .inl e, fun _ => hold⟩⟩
                     rw [Hes.out]; exact ho'
                   intro v4
                   simp only [Nat.reduceAdd]
                   refine RegT.T_tail (fun W hR hf => ?_)
                   have hy : EsG W (fun b => w4.heap.size + 2 ≤ b) 53 v4 ((ss.drop k).take (j + 1)) := hf _ (.head _) (.inl rfl)
                   obtain ⟨p8, n8, c8, rfl⟩ : ∃ p n c, v4 = .slice p n c := by obtain ⟨p, c, e⟩ := hy.form; exact ⟨p, _, c, e⟩
                   have Hy := zh hy
                   have hsame : ∀ b, b < wr.heap.size → ¬ (w4.heap.size + 2 ≤ b) → W.heap[b]? = wr.heap[b]? := fun b hb hn => by
                    rw [hR.1.block b (by show b < W2.heap.size; omega) (fun e => e.elim (fun e => by have := (Hug.out _ e).1; omega) (fun e => by omega))]
                    exact HB2.out.block b hb
                   have HMW := zh (show MtAt W w.heap.size g (.slice (some ⟨b, off, none⟩) ss.length c0) pk (.slice pa na ca) from HMr.out.same fun b hb => hsame b (by omega) (by omega))
                   have HBW := zh (show Below w.heap.size w W from HBr.out.trans ⟨hR.1.os.trans HB2.out.os, hR.1.tape.trans HB2.out.tape, hR.1.output.trans HB2.out.output, Nat.le_trans HB2.out.size hR.1.size, fun b hb => hsame b (by omega) (by omega)⟩)
                   have HRW := zh (show Recs w4.heap.size wr W from ⟨hsame _ (by omega) (by omega), hsame _ (by omega) (by omega)⟩)
                   have HsW := zh (show w4.heap.size + 2 ≤ W.heap.size from Nat.le_trans hw2s hR.1.size)
                   have hc2 := one_cell HMW.out.a
                   have hf2 := one_frozen HMW.out.a
                   clear hR hf hy hsame
                   simp only [List.drop_succ_cons, List.drop_zero]
                   go_wp2
                   gi_wp2
                   go_roundw
                   case rel =>
                    first
                     | (refine ⟨j + 1, _, by omega, by go_num, zh (HMW.out.puta _), zh (Hy.out.frame fun x hx => Below.heap_setCell _ _ _ _ (by have hx' : w4.heap.size + 2 ≤ x := hx; simp; omega)), zh (HBW.out.setCell (p := ⟨w.heap.size + 1 + 1 + 1, 0, none⟩) (by show w.heap.size ≤ w.heap.size + 1 + 1 + 1; omega) _), zh ((HRr.out.trans HRW.out).trans ⟨Below.heap_setCell _ _ _ _ (by simp; omega), Below.heap_setCell _ _ _ _ (by simp; omega)⟩), zh (by have := HsW.out; simpa [World.setCell] using this)⟩)
                     | (refine ⟨_, _, _, _, _, _, _, _, _, _, _, ?_, rfl⟩; refine ⟨j + 1, _, by omega, by go_num, zh (HMW.out.puta _), zh (Hy.out.frame fun x hx => Below.heap_setCell _ _ _ _ (by have hx' : w4.heap.size + 2 ≤ x := hx; simp; omega)), zh (HBW.out.setCell (p := ⟨w.heap.size + 1 + 1 + 1, 0, none⟩) (by show w.heap.size ≤ w.heap.size + 1 + 1 + 1; omega) _), zh ((HRr.out.trans HRW.out).trans ⟨Below.heap_setCell _ _ _ _ (by simp; omega), Below.heap_setCell _ _ _ _ (by simp; omega)⟩), zh (by have := HsW.out; simpa [World.setCell] using this)⟩)
                   case measure => simp [intOf]; omega
                 · rfl
                 · kernel_rfl
               · have hjm : j = m := by omega
                 gi_wp2
                 have hE := HEr.out
                 rw [hjm, List.take_of_length_le (by rw [List.length_drop]; have := Hmm.out; omega)] at hE
                 have hM := HMr.out
                 rw [Hpk.out] at hM
                 exact ⟨rfl, HRr.out, Hm.out, hmiss, av, hM, hE, HBr.out⟩
         case done1 =>
          rintro W ⟨h1, h2, h3⟩ hD
          have hge : w.heap.size + 6 ≤ w4.heap.size := by omega
          obtain ⟨-, -, k3⟩ := HF.out W h2
          have hBW : Below w.heap.size w W := hB4.trans (h2.below (B := w.heap.size) (by omega) (fun b hb => by omega))
          have HK3 := zh k3
          have HBW := zh hBW
          have HD := zh hD
          rw [find_none h1, ← HLe.out] at HQ
          have f2 := one_cell k3.k
          have f3 := one_frozen k3.k
          have f4 := one_cell k3.a
          have f5 := one_frozen k3.a
          clear h1 h2 h3 k3 hBW hD hB4s hs4 hs3
          go_wp2
          go_region
          all_goals go_wp2
          rw [Exit.noGoto_ret, ← HQ.out]
          have hD2 : ((W.setCell ⟨w.heap.size + 1 + 1, 0, none⟩ (.int .u64 (L : Int))).setCell ⟨w.heap.size + 1 + 1 + 1, 0, none⟩ (.slice none 0 0)).drew.heap[w4.heap.size]? = some (.deferred (some [])) := by
           show (World.setCell _ _ _).heap[w4.heap.size]? = _
           rw [Below.heap_setCell _ _ _ _ (by simp; omega), Below.heap_setCell _ _ _ _ (by simp; omega)]; exact HD.out
          refine ⟨by simp, .inl ⟨_, _, rfl, run_takeDeferred hD2, ?_⟩⟩
          have hfin := ((HK3.out.putk L).puta (.slice none 0 0)).same (W' := ((W.setCell ⟨w.heap.size + 1 + 1, 0, none⟩ (.int .u64 (L : Int))).setCell ⟨w.heap.size + 1 + 1 + 1, 0, none⟩ (.slice none 0 0)).drew.putObj w4.heap.size (.deferred none)) (fun b hb => World.putObj_heap_other (by omega))
          exact ⟨_, results_cct rfl _ _ _ _ _ _ _ rfl rfl rfl hfin.k hfin.a, _, rfl, .inl ⟨rfl, rfl⟩, ((HBW.out.setCell (p := ⟨w.heap.size + 1 + 1, 0, none⟩) (by show w.heap.size ≤ w.heap.size + 1 + 1; omega) _).setCell (p := ⟨w.heap.size + 1 + 1 + 1, 0, none⟩) (by show w.heap.size ≤ w.heap.size + 1 + 1 + 1; omega) _).drew.trans ⟨rfl, rfl, rfl, by simp [World.putObj], fun b hb => World.putObj_heap_other (by omega)⟩⟩
         case stop1 =>
          rintro k W hkN ⟨h1, h2, av, k3, h4, h5⟩ hD
          have hge : w.heap.size + 6 ≤ w4.heap.size := by omega
          obtain ⟨pa, na, ca, rfl⟩ : ∃ p n c, av = .slice p n c := by obtain ⟨p, c, e⟩ := h4.form; exact ⟨p, _, c, e⟩
          obtain ⟨pk, hpk⟩ : ∃ x, x = prev + k := ⟨_, rfl⟩
          rw [← hpk] at k3
          have HK3 := zh k3
          have HBW := zh h5
          have HE := zh h4
          have HD := zh hD
          rw [find_first h2 h1 _ hkN] at HQ
          simp only [] at HQ
          rw [← hpk] at HQ
          have f2 := one_cell k3.k
          have f3 := one_frozen k3.k
          have f4 := one_cell k3.a
          have f5 := one_frozen k3.a
          clear h1 h2 h4 h5 k3 hD hB4s hpk hkN hs4 hs3
          refine wpIn_wide.2 ?_
          go_wp2
          go_region
          all_goals go_wp2
          rw [Exit.noGoto_ret, ← HQ.out]
          have hD2 : ((W.setCell ⟨w.heap.size + 1 + 1, 0, none⟩ (.int .u64 (pk : Int))).setCell ⟨w.heap.size + 1 + 1 + 1, 0, none⟩ (.slice pa na ca)).drew.heap[w4.heap.size]? = some (.deferred (some [])) := by
           show (World.setCell _ _ _).heap[w4.heap.size]? = _
           rw [Below.heap_setCell _ _ _ _ (by simp; omega), Below.heap_setCell _ _ _ _ (by simp; omega)]; exact HD.out
          refine ⟨by simp, .inl ⟨_, _, rfl, run_takeDeferred hD2, ?_⟩⟩
          have hfin := ((HK3.out.putk pk).puta (.slice pa na ca)).same (W' := ((W.setCell ⟨w.heap.size + 1 + 1, 0, none⟩ (.int .u64 (pk : Int))).setCell ⟨w.heap.size + 1 + 1 + 1, 0, none⟩ (.slice pa na ca)).drew.putObj w4.heap.size (.deferred none)) (fun b hb => World.putObj_heap_other (by omega))
          refine ⟨_, results_cct rfl _ _ _ _ _ _ _ rfl rfl rfl hfin.k hfin.a, _, rfl, ?_, ((HBW.out.setCell (p := ⟨w.heap.size + 1 + 1, 0, none⟩) (by show w.heap.size ≤ w.heap.size + 1 + 1; omega) _).setCell (p := ⟨w.heap.size + 1 + 1 + 1, 0, none⟩) (by show w.heap.size ≤ w.heap.size + 1 + 1 + 1; omega) _).drew.trans ⟨rfl, rfl, rfl, by simp [World.putObj], fun b hb => World.putObj_heap_other (by omega)⟩⟩
          refine ((HE.out.frame fun b hb => ?_).mono fun b _ hb => ?_)
          · have hb' : w4.heap.size + 2 ≤ b := hb
            rw [World.putObj_heap_other (by omega)]
            show (World.setCell _ _ _).heap[b]? = _
            rw [Below.heap_setCell _ _ _ _ (by simp; omega), Below.heap_setCell _ _ _ _ (by simp; omega)]
          · have hb' : w4.heap.size + 2 ≤ b := hb
            omega
       · rw [if_pos (.inr ⟨rfl, hc2⟩)] at HQ
         have e4 : decide (at1 = term) = false := by simp [hc2]
         have e5 : (at1 == term) = false := by simp [hc2]
         clear hat hc1 hc2
         go_wp2_with (first
          | (go_at_call 28; refine (Hterm.out).mono ?_; rintro r w1 ⟨rfl, hB⟩; have HM1 := zh (HM.out.drew nq |>.below hB); have HT1 := zh ((HT.out.keeps (Keeps.of_heap (w' := W0.drewN nq) rfl)).keeps hB.block); have HB1 := zh ((HB.out.trans (c := W0.drewN nq) ⟨rfl, rfl, rfl, Nat.le_refl _, fun _ _ => rfl⟩).trans (hB.mono HB.out.size)); have hcell2 := one_cell HM1.out.t; have Hlast := zh (last_w S0 g B T v es w1 HT1.out); clear hB)
          | (go_at_call 76; rw [← HLe.out] at Hlast; refine (Hlast.out).mono ?_; rintro r w2 ⟨rfl, hB⟩; have HM2 := zh (HM1.out.below hB); have HB2 := zh (HB1.out.trans (hB.mono HB1.out.size)); have f2 := one_cell HM2.out.k; have f3 := one_frozen HM2.out.k; have f4 := one_cell HM2.out.a; have f5 := one_frozen HM2.out.a; clear hB))
         rw [← HQ.out]
         have hfin := ((HM2.out.putk 0).puta (.slice none 0 0))
         exact ⟨_, results_cct rfl _ _ _ _ _ _ _ rfl rfl rfl hfin.k hfin.a, _, rfl, .inl ⟨rfl, rfl⟩, (HB2.out.setCell (p := ⟨w.heap.size + 1 + 1, 0, none⟩) (by show w.heap.size ≤ w.heap.size + 1 + 1; omega) _).setCell (p := ⟨w.heap.size + 1 + 1 + 1, 0, none⟩) (by show w.heap.size ≤ w.heap.size + 1 + 1 + 1; omega) _⟩
theorem meet_w (S R : Foot) (g B T prev term : Nat) (v sv : Value) (es ss : List Ent) (w : World) (h : TkAt w S g B T v es) (hr : EsR w R sv ss) (hp : prev < 2 ^ 64) (ht : term < 2 ^ 64)
 (hn : es.length + ss.length ≤ 1000000) (hl : ∀ e ∈ ss, e.2.length ≤ 1000000) :
 Calls Try.prog 24 #[.pointer (some ⟨g, 0, none⟩), .int .u64 (prev : Int), .int .u64 (term : Int), sv] w fun r w' =>
  ∃ av, r = .returned (.tuple #[.int .u64 (((meetR B T es prev term ss).1 : Nat) : Int), av, .int .i64 (meetR B T es prev term ss).2.2]) ∧ EsR w' (fun b => w.heap.size ≤ b) av (meetR B T es prev term ss).2.1 ∧ Below w.heap.size w w' :=
 (meetg_w S R g B T prev term v sv es ss w h hr hp ht hn hl).mono fun r w' ⟨av, h1, h2, h3⟩ => ⟨av, h1, h2.rd, h3⟩
end Go.Proofs.Yteellfgiejnigaa
