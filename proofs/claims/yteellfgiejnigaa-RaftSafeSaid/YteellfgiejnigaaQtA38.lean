/- RaftSafe: G59, G60, G70, G61. -/
import Derived.Test.YteellfgiejnigaaQtA00
import Derived.Test.YteellfgiejnigaaQtA37
import Derived.Test.YteellfgiejnigaaQtA27
namespace Go.Proofs.Yteellfgiejnigaa
open Go.ChangeShapes Go.WideShapes Go.ChangeAt Go.RowKit Go.Maps
set_option linter.unusedVariables false
section
variable {own own' own0 : Own} {w w' w0 : World} {a i N : Nat} {p g : Nat → Nat} {x : RS.W} {v : Wv} {L : Nat → Prop}
theorem append_one {α : Type} {R : Rep α} {f : α → Value} (hR : ∀ w S y cs, R.rel w S y cs ↔ cs = [f y]) {t e : TypeId} {z : Value} {bytes : Nat} (he : Elem Try.prog t e z R.k bytes) (hby : bytes ≤ 8) {u : Value} {l : List α} {b : Nat} (h : RoG R w (fun c => own c = b) e u l) (hl : l.length ≤ 100) (y : α) :
 ∃ u' w', (Builtin.append_ #[t, t] t #[u, .slice (some ⟨w.heap.size, 0, none⟩) 1 1]).run Try.prog (w.alloc (.cells #[f y] e)) = .ok u' w' ∧ RoG R w' (fun c => ext own w.heap.size b c = b) e u' (l ++ [y]) ∧ Mv (fun l => l = b) own w (ext own w.heap.size b) w' := by
 have hz := heap_alloc_new w (.cells #[f y] e)
 have h0 := h.mono (S' := fun c => own c = b ∧ c < w.heap.size) fun c hc e => ⟨e, hc⟩
 have hB : Below w.heap.size w (w.alloc (.cells #[f y] e)) := (Below.refl _ _).alloc (Nat.le_refl _) _
 have h1 : RoG R (w.alloc (.cells #[f y] e)) (fun c => own c = b ∧ c < w.heap.size) e u l := h0.frame fun c hc => hB.block c hc.2
 obtain ⟨u', w', hr, ho', hg, hnew, hold⟩ := run_append_rog (R := R) (P := Try.prog) (t := t) (ty := t) (c := 1) (S' := fun c => ext own w.heap.size b c = b) he h1 (p := some ⟨w.heap.size, 0, none⟩) (ys := [f y]) (fs := [y])
  (RoC.single ((hR _ _ _ _).2 rfl)) (.inr ⟨_, rfl, fun j u hu => row_cells (cs := [f y]) hz j u hu⟩) (by simp [maxLen]; omega) (by
    have h2 : (l.length + 1) * bytes ≤ 101 * 8 := Nat.mul_le_mul (by omega) hby
    simp; omega) (fun c hc => (ext_lt hc.2).trans hc.1) (ext_ge (by simp))
 refine ⟨u', w', hr, ho', ⟨⟨hg.os.trans hB.os, hg.tape.trans hB.tape, hg.output.trans hB.output, Nat.le_trans hB.size hg.size, fun c hc hn => ?_⟩, fun c hc => ext_lt hc⟩⟩
 refine (hg.block c (Nat.lt_of_lt_of_le hc hB.size) (fun e2 => ?_)).trans (hB.block c hc)
 exact hn (h.foot c e2.symm).1
theorem range_more {α : Type} (f : Nat → α) (n : Nat) (y : α) : (List.range n).map f ++ [y] = (List.range (n + 1)).map (fun j => if j = n then y else f j) := by
 rw [List.range_succ, List.map_append]
 congr 1
 · apply List.map_congr_left
   intro j hj
   rw [if_neg (by have := List.mem_range.1 hj; omega)]
 · simp
theorem WdAt.more {X : RS.W} {k P g9 : Nat} (h : WdAt own w a p g { X with n := k } v) (hk : k < 7) (hn : NdAt own w k P g9 (X.r k)) (hN : (X.r k).n = v.N) (hup : X.up k = true) :
 ∃ q3 n3 c3 w4, (Builtin.append_ #[96, 96] 96 #[.slice v.rp v.rn v.rc, .slice (some ⟨w.heap.size, 0, none⟩) 1 1]).run Try.prog (w.alloc (.cells #[.pointer (some ⟨P, 0, none⟩)] 86)) = .ok (.slice q3 n3 c3) w4 ∧ w4.cell? ⟨a, 3, none⟩ = some (.slice v.rp v.rn v.rc) ∧ w4.frozen? ⟨a, 3, none⟩ = false ∧
  (w4.setCell ⟨a, 3, none⟩ (.slice q3 n3 c3)).cell? ⟨a, 4, none⟩ = some (.slice v.up v.un v.uc) ∧
  ∃ q6 n6 c6 w7, (Builtin.append_ #[144, 144] 144 #[.slice v.up v.un v.uc, .slice (some ⟨(w4.setCell ⟨a, 3, none⟩ (.slice q3 n3 c3)).heap.size, 0, none⟩) 1 1]).run Try.prog ((w4.setCell ⟨a, 3, none⟩ (.slice q3 n3 c3)).alloc (.cells #[.bool true] 4)) = .ok (.slice q6 n6 c6) w7 ∧ w7.cell? ⟨a, 4, none⟩ = some (.slice v.up v.un v.uc) ∧ w7.frozen? ⟨a, 4, none⟩ = false ∧
  ∃ own' p' g' v', WdAt own' (w7.setCell ⟨a, 4, none⟩ (.slice q6 n6 c6)) a p' g' { X with n := k + 1 } v' ∧ v'.N = v.N ∧ Mv (fun l => l ≠ 9) own w own' (w7.setCell ⟨a, 4, none⟩ (.slice q6 n6 c6)) := by
 have h7 := h.n7
 obtain ⟨u3, w4, hr3, ho3, m3⟩ := append_one (f := fun P => .pointer (some ⟨P, 0, none⟩)) (fun _ _ _ _ => Iff.rfl) helP (Nat.le_refl _) h.r (by rw [List.length_map, List.length_range]; show k ≤ 100; omega) P
 obtain ⟨q3, c3, rfl⟩ := ho3.form
 generalize hn3 : (((List.range ({ X with n := k } : RS.W).n).map p) ++ [P]).length = n3 at *
 have hrow4 : w4.heap[a]? = some (.cells v.cells 147) := (m3.same h.lt (by rw [h.oa]; decide)).trans h.row
 have hoa4 : ext own w.heap.size 11 a = 10 := (m3.lab a h.lt).trans h.oa
 have m4 : Mv (fun l => l = 10) (ext own w.heap.size 11) w4 (ext own w.heap.size 11) (w4.setCell ⟨a, 3, none⟩ (.slice q3 n3 c3)) := Mv.set (L := fun l => l = 10) (a := ⟨a, 3, none⟩) hoa4 _
 have m5 : Mv (fun l => l = 10 ∨ l = 11) own w (ext own w.heap.size 11) (w4.setCell ⟨a, 3, none⟩ (.slice q3 n3 c3)) := (m3.mono fun l e => .inr e).trans (m4.mono fun l e => .inl e)
 have hrow5 : (w4.setCell ⟨a, 3, none⟩ (.slice q3 n3 c3)).heap[a]? = some (.cells (v.cells.setIfInBounds 3 (.slice q3 n3 c3)) 147) := heap_setCell_same hrow4 _
 have hlt5 := (Array.getElem?_eq_some_iff.1 hrow5).1
 have hu5 := h.u.lab m5 (show ¬ (12 = 10 ∨ 12 = 11) by decide)
 refine ⟨q3, n3, c3, w4, hr3, by rw [cell_of_row _ _ _ _ _ _ hrow4]; rfl, row_frozen 3 hrow4, by rw [cell_of_row _ _ _ _ _ _ hrow5]; rfl, ?_⟩
 have hr5 := ho3.lab m4 (show ¬ 11 = 10 by decide)
 generalize w4.setCell ⟨a, 3, none⟩ (.slice q3 n3 c3) = w5 at *
 generalize ext own w.heap.size 11 = own5 at *
 obtain ⟨u6, w7, hr6, ho6, m6⟩ := append_one (f := fun b => .bool b) (fun _ _ _ _ => Iff.rfl) helB (by decide) hu5 (by rw [List.length_map, List.length_range]; show k ≤ 100; omega) true
 obtain ⟨q6, c6, rfl⟩ := ho6.form
 generalize hn6 : (((List.range ({ X with n := k } : RS.W).n).map ({ X with n := k } : RS.W).up) ++ [true]).length = n6 at *
 have hoa5 : own5 a = 10 := (m5.lab a h.lt).trans h.oa
 have hrow7 : w7.heap[a]? = some (.cells (v.cells.setIfInBounds 3 (.slice q3 n3 c3)) 147) := (m6.same hlt5 (by rw [hoa5]; decide)).trans hrow5
 have hoa7 : ext own5 w5.heap.size 12 a = 10 := (m6.lab a hlt5).trans hoa5
 have m8 : Mv (fun l => l = 10) (ext own5 w5.heap.size 12) w7 (ext own5 w5.heap.size 12) (w7.setCell ⟨a, 4, none⟩ (.slice q6 n6 c6)) := Mv.set (L := fun l => l = 10) (a := ⟨a, 4, none⟩) hoa7 _
 have m58 : Mv (fun l => l = 10 ∨ l = 12) own5 w5 (ext own5 w5.heap.size 12) (w7.setCell ⟨a, 4, none⟩ (.slice q6 n6 c6)) := (m6.mono fun l e => .inr e).trans (m8.mono fun l e => .inl e)
 have m9 : Mv (fun l => l = 10 ∨ l = 11 ∨ l = 12) own w (ext own5 w5.heap.size 12) (w7.setCell ⟨a, 4, none⟩ (.slice q6 n6 c6)) := (m5.mono fun l e => by omega).trans (m58.mono fun l e => by omega)
 refine ⟨q6, n6, c6, w7, hr6, by rw [cell_of_row _ _ _ _ _ _ hrow7]; rfl, row_frozen 4 hrow7, ext own5 w5.heap.size 12, fun j => if j = k then P else p j, fun j => if j = k then g9 else g j, { v with rp := q3, rn := n3, rc := c3, up := q6, un := n6, uc := c6 }, ⟨by show k + 1 ≤ 7; omega, fun j hj => ?_, heap_setCell_same hrow7 _, hoa7, ?_, ?_, h.m.lab m9 (by decide), h.c.lab m9 (by decide), h.l.same (m9.same h.l.lt (by rw [h.ol]; decide)), (m9.lab _ h.l.lt).trans h.ol, h.Tx, fun j hj => ?_⟩, rfl, m9.mono fun l e => by omega⟩
 · have hj' : j < k + 1 := hj
   show NdAt _ _ j (if j = k then P else p j) (if j = k then g9 else g j) (X.r j)
   by_cases e : j = k
   · subst e; rw [if_pos rfl, if_pos rfl]; exact hn.mv m9 (by omega)
   · rw [if_neg e, if_neg e]; exact (h.nd j (show j < k by omega)).mv m9 (by omega)
 · have h1 := hr5.lab m58 (show ¬ (11 = 10 ∨ 11 = 12) by decide)
   rw [range_more] at h1
   exact h1
 · have h1 := ho6.lab m8 (show ¬ 12 = 10 by decide)
   rw [range_more] at h1
   have h2 : (fun j => if j = k then true else X.up j) = X.up := by
    funext j
    by_cases e : j = k
    · subst e; rw [if_pos rfl, hup]
    · rw [if_neg e]
   have h3 : RoG boolR (w7.setCell ⟨a, 4, none⟩ (.slice q6 n6 c6)) (fun c => ext own5 w5.heap.size 12 c = 12) 4 (.slice q6 n6 c6) ((List.range (k + 1)).map (fun j => if j = k then true else X.up j)) := h1
   rw [h2] at h3
   exact h3
 · have hj' : j < k + 1 := hj
   show (X.r j).n = v.N
   by_cases e : j = k
   · subst e; exact hN
   · exact h.Nx j (show j < k by omega)
end
section
variable {own own' own0 : Own} {w w' w0 : World} {a i N : Nat} {p g : Nat → Nat} {x : RS.W} {v : Wv} {L : Nat → Prop}
def wv0 (n t lp : Nat) : Wv := ⟨n, t, none, 0, 0, none, 0, 0, none, 0, 0, lp, none, 0, 0⟩
theorem made_start (own : Own) (n t : Nat) (w : World) :
 WdAt (ext (ext own w.heap.size 15) (w.heap.size + 1) 10) ((w.alloc (.map #[] 0)).alloc (.cells (wv0 n t w.heap.size).cells 147)) (w.heap.size + 1) (fun _ => 0) (fun _ => 0) { RS.W.first n t with n := 0 } (wv0 n t w.heap.size) ∧
  Mv (fun l => l ≠ 9) own w (ext (ext own w.heap.size 15) (w.heap.size + 1) 10) ((w.alloc (.map #[] 0)).alloc (.cells (wv0 n t w.heap.size).cells 147)) := by
 have hB : Below w.heap.size w ((w.alloc (.map #[] 0)).alloc (.cells (wv0 n t w.heap.size).cells 147)) := ((Below.refl _ _).alloc (Nat.le_refl _) _).alloc (by simp) _
 have hr := heap_alloc_new (w.alloc (.map #[] 0)) (.cells (wv0 n t w.heap.size).cells 147)
 rw [heap_alloc_size] at hr
 refine ⟨⟨Nat.zero_le _, fun i hi => absurd hi (Nat.not_lt_zero i), hr, ext_ge (Nat.le_refl _), .inl ⟨rfl, rfl⟩, .inl ⟨rfl, rfl⟩, .inl ⟨rfl, rfl⟩, .inl ⟨rfl, rfl⟩, ?_, ?_, rfl, fun i hi => absurd hi (Nat.not_lt_zero i)⟩, ⟨Touch.of_below hB, fun b hb => ?_⟩⟩
 · have h1 : LdAt (w.alloc (.map #[] 0)) w.heap.size (fun _ => none) := ⟨.map [], World.ownsMap_made _ _ _ _, Nat.zero_le _, fun T _ => ⟨rfl, fun i e => by cases e⟩⟩
   exact h1.same (Below.heap_alloc _ _ _ (by simp))
 · show ext (ext own w.heap.size 15) (w.heap.size + 1) 10 w.heap.size = 15
   rw [ext_lt (Nat.lt_succ_self _), ext_ge (Nat.le_refl _)]
 · rw [ext_lt (by omega), ext_lt hb]
set_option maxRecDepth 100000 in
set_option maxHeartbeats 2000000 in
theorem made_w (own : Own) (n t : Nat) (hn1 : 1 ≤ n) (hn7 : n ≤ 7) (ht1 : 1 ≤ t) (ht2 : t ≤ 20) (w : World) :
 Calls Try.prog 51 #[.int .i64 (n : Int), .int .i64 (t : Int)] w fun e w' => ∃ a own' p g v, e = .returned (.tuple #[.pointer (some ⟨a, 0, none⟩), .bool true]) ∧ WdAt own' w' a p g (RS.W.first n t) v ∧ Mv (fun l => l ≠ 9) own w own' w' := by
 have hmm := @run_makeMap Try.prog
 obtain ⟨h0, m0⟩ := made_start own n t w
 have HS1 := zh (And.intro h0 m0)
 obtain ⟨w1, hw1⟩ : ∃ w1, (w.alloc (.map #[] 0)).alloc (.cells #[.int .i64 (n : Int), .int .i64 0, .int .i64 (t : Int), .slice none 0 0, .slice none 0 0, .slice none 0 0, .map (some w.heap.size), .slice none 0 0, .int .i64 600] 147) = w1 := ⟨_, rfl⟩
 have HS1 := zh (show WdAt (ext (ext own w.heap.size 15) (w.heap.size + 1) 10) w1 (w.heap.size + 1) (fun _ => 0) (fun _ => 0) { RS.W.first n t with n := 0 } (wv0 n t w.heap.size) ∧ Mv (fun l => l ≠ 9) own w (ext (ext own w.heap.size 15) (w.heap.size + 1) 10) w1 from by rw [← hw1]; exact HS1.out)
 have HW := zh hw1
 clear hw1 h0 m0
 go_enter Try.func51, Try.ntmps51
 go_upto_region 2 with (fail)
 rw [HW.out]
 generalize ext (ext own w.heap.size 15) (w.heap.size + 1) 10 = own1 at *
 clear hmm HW
 go_wp2
 go_loopw [7] (fun ix wr => ∃ (k : Nat) (own' : Own) (p' g' : Nat → Nat) (v' : Wv), ix = .int .i64 (k : Int) ∧ k ≤ n ∧ v'.N = n ∧ Hid (WdAt own' wr (w.heap.size + 1) p' g' { RS.W.first n t with n := k } v') ∧ Hid (Mv (fun l => l ≠ 9) own w own' wr)) (fun ix _ => n - (intOf ix).toNat)
 case atStart => exact ⟨0, own1, _, _, _, rfl, Nat.zero_le _, rfl, zh HS1.out.1, zh HS1.out.2⟩
 case round =>
  obtain ⟨k, ownk, pk, gk, vk, rfl, hk, hvN, HD, HM⟩ := hrel
  clear HS1
  by_cases hlt : k < n
  · have d1 : decide (k < n) = true := by simpa using hlt
    have d2 : decide ((k : Int) < (n : Int)) = true := by simpa using hlt
    have c1 : IntKind.u64.wrap (k : Int) = (k : Int) := IntWalk.u64_in _ (by omega)
    have Hnt := zh (show Calls Try.prog 22 #[.int .u64 0, .int .u64 0, .slice none 0 0] wr _ from new_w (fun _ => True) 0 0 (.slice none 0 0) [] wr (by decide) (by decide) (EsR.nil _ _) (by decide) (fun e he => (by cases he)))
    have HvN := zh hvN
    clear hvN
    go_upto_region 6 with (first
     | (go_at_call 22; refine (Hnt.out).mono ?_; rintro e w2 ⟨rfl, ⟨v2, htk2⟩, hB2⟩; have HB2 := zh hB2
        have Hnw := zh (show Calls Try.prog 55 #[.agg #[.int .i64 (n : Int), .int .i64 (k : Int), .int .i64 (t : Int)], .int .u64 0, .int .i64 (-1), .pointer (some ⟨wr.heap.size, 0, none⟩), .int .u64 (k : Int)] w2 (NewP k (RS.Rf.init n k t k) w2) from new_ok_w k (by omega) n k t 0 (-1) _ wr.heap.size 0 0 v2 [] k w2 (by rw [List.take_nil] at htk2; exact htk2) hn1 hn7 hlt ht1 ht2 (by decide) (by omega) (by decide) (fun e he => (by cases he)) (by decide) (by omega))
        clear hB2 htk2)
     | (go_at_call 55; refine (Hnw.out).mono ?_; rintro e w3 ⟨P, g9, rfl, hnd, hB3⟩; have HN3 := zh hnd; have HB3 := zh hB3; clear hnd hB3))
    have hB := HB2.out.trans (HB3.out.mono HB2.out.size)
    have hD3 := HD.out.mv (L := fun _ => False) (Mv.of_below hB k) fun l e => e.elim
    have hM3 := HM.out.trans ((Mv.of_below (L := fun _ => False) (own := ownk) hB k).mono (L' := fun l => l ≠ 9) fun l e => e.elim)
    have hN3 : NdAt (ext ownk wr.heap.size k) w3 k P g9 (RS.Rf.init n k t k) := HN3.out.move fun b hb e => by
     by_cases hbl : b < w2.heap.size
     · rw [ext_lt hbl] at e; omega
     · exact ⟨ext_ge (by have := HB2.out.size; omega), rfl⟩
    obtain ⟨q3, n3, c3, w4, hr3, hc3, hf3, hc4, q6, n6, c6, w7, hr6, hc7, hf7, own8, p8, g8, v8, hD8, hv8, hM8⟩ := hD3.more (X := RS.W.first n t) (by omega) hN3 (by rw [HvN.out]; rfl) rfl
    have ha3 : w3.cell? ⟨w.heap.size + 1, 3, none⟩ = some (.slice vk.rp vk.rn vk.rc) := hD3.cell 3
    have HR3 := zh hr3
    have HR6 := zh hr6
    have HD8 := zh hD8
    have HM8 := zh (hM3.trans hM8)
    have Hv8 := zh (hv8.trans HvN.out)
    have hc4' := hc4
    clear hB hD3 hM3 hN3 hr3 hr6 hD8 hM8 hv8 HD HM HN3 HB2 HB3 Hnt Hnw
    go_upto_region 9 with (refine wpList_append_run (u := .slice vk.rp vk.rn vk.rc) (z := .slice (some ⟨w3.heap.size, 0, none⟩) 1 1) rfl (.tmp 38) (.tmp 40) 96 rfl rfl rfl HR3.out ?_)
    clear ha3 hc3 hf3 HR3
    generalize w4.setCell ⟨w.heap.size + 1, 3, none⟩ (.slice q3 n3 c3) = w5 at *
    go_upto_region 4 with (refine wpList_append_run (u := .slice vk.up vk.un vk.uc) (z := .slice (some ⟨w5.heap.size, 0, none⟩) 1 1) rfl (.tmp 48) (.tmp 49) 144 rfl rfl rfl HR6.out ?_)
    go_wp2
    go_roundw
    case rel => exact ⟨k + 1, own8, p8, g8, v8, by go_num, by omega, Hv8.out, HD8, HM8⟩
    case measure => simp [intOf]; omega
  · have d1 : decide (k < n) = false := by simpa using hlt
    have d2 : decide ((k : Int) < (n : Int)) = false := by simp; omega
    obtain rfl : k = n := by omega
    go_wp2
    go_ret2
    exact ⟨w.heap.size + 1, rfl, ownk, ⟨pk, gk, vk, HD.out⟩, HM.out⟩
end
end Go.Proofs.Yteellfgiejnigaa
namespace Go.Proofs.Yteellfgiejnigaa
open Go.ChangeShapes Go.WideShapes Go.ChangeAt Go.RowKit
set_option linter.unusedVariables false
section
variable {H : Type} {enc : TypeId × Value → H} {w : World} {base : Nat}
instance : Inhabited REv := ⟨⟨0, 0, 0, [], 0⟩⟩
set_option maxRecDepth 100000 in
theorem evs_of_trod {d : DataW H} {p : List MemPlace} {a : Option Addr} {len cap : Nat}
 (hs : Fits Try.prog 75 d) (h : DataW.Trod enc Try.prog w base (fun _ => true) true 75 (.slice a len cap) d p) : ∃ ls : List REv, ls.length = len ∧ REvs w a ls ∧ len ≤ maxLen ∧ ∀ e ∈ ls, e.draw < 2 ^ 64 := by
 obtain ⟨h1, h2, h3, h4⟩ := open_structs_fit (C := 5) Try.underlying75 Try.underlying82 (by kernel_rfl) ⟨_, Array.mem_of_getElem? (i := 0) rfl, rfl, by kernel_rfl⟩ (by decide) hs h
 have hm : len ≤ maxLen := Nat.le_trans h1 h2
 rcases Nat.eq_zero_or_pos len with hz0 | hpos
 · exact ⟨[], hz0.symm, fun i hi => absurd hi (Nat.not_lt_zero i), hm, fun e he => by cases he⟩
 · obtain ⟨b, off, rfl, hb, hc⟩ := h4 hpos
   obtain ⟨ls, hl, hp⟩ := list_of_fn len (fun i (x : REv) => REvAt w b (off + i * 5) x ∧ x.draw < 2 ^ 64) (fun i hi => by
    obtain ⟨u0, y0, n0, c0, t0, _⟩ := hc i hi _ (Array.mem_of_getElem? (i := 0) rfl) (by kernel_rfl) (by decide)
    obtain ⟨u1, y1, n1, c1, t1, _⟩ := hc i hi _ (Array.mem_of_getElem? (i := 1) rfl) (by kernel_rfl) (by decide)
    obtain ⟨u2, y2, n2, c2, t2, _⟩ := hc i hi _ (Array.mem_of_getElem? (i := 2) rfl) (by kernel_rfl) (by decide)
    obtain ⟨u3, y3, n3, c3, t3, _⟩ := hc i hi _ (Array.mem_of_getElem? (i := 3) rfl) (by kernel_rfl) (by decide)
    obtain ⟨u4, y4, n4, c4, t4, _⟩ := hc i hi _ (Array.mem_of_getElem? (i := 4) rfl) (by kernel_rfl) (by decide)
    obtain ⟨z0, e0, _, w0⟩ := DataW.trod_int Try.underlying3 t0
    obtain ⟨z1, e1, _, w1⟩ := DataW.trod_int Try.underlying3 t1
    obtain ⟨z2, e2, _, w2⟩ := DataW.trod_int Try.underlying3 t2
    obtain ⟨z4, e4, _, w4⟩ := DataW.trod_int Try.underlying22 t4
    simp only [List.cons.injEq, and_true] at e0 e1 e2 e4
    subst e0 e1 e2 e4
    obtain ⟨m4, rfl⟩ : ∃ m : Nat, z4 = (m : Int) := ⟨z4.toNat, by have := (wf_u64 w4).1; omega⟩
    obtain ⟨a2, l2, q2, e3⟩ := Go.Joins.slice_form Try.underlying29 t3
    simp only [List.cons.injEq, and_true] at e3
    subst e3
    obtain ⟨t, htl, ht⟩ := RdB_of_trod Try.underlying29 Try.underlying5 (by kernel_rfl) (show DataW.Trod enc Try.prog w base (fun _ => true) true 29 (.slice a2 l2 q2) y3.1 y3.2 from ⟨n3, t3⟩)
    subst htl
    exact ⟨⟨z0, z1, z2, t, m4⟩, ⟨c0, c1, c2, ⟨a2, q2, c3, ht⟩, c4⟩, by have := (wf_u64 w4).2; show m4 < 2 ^ 64; omega⟩)
   subst hl
   refine ⟨ls, rfl, fun i hi => ⟨b, off, rfl, ?_⟩, hm, fun o ho => ?_⟩
   · have := (hp i hi).1
     rw [getD_of_lt _ _ _ hi] at this
     exact this
   · obtain ⟨i, hi, rfl⟩ := List.getElem_of_mem ho
     have := (hp i hi).2
     rw [getD_of_lt _ _ _ hi] at this
     exact this
end
end Go.Proofs.Yteellfgiejnigaa
namespace Go.Proofs.Yteellfgiejnigaa
open Go.ChangeShapes Go.WideShapes Go.ChangeAt Go.RowKit Go.Maps
set_option linter.unusedVariables false
section
variable {own own' own0 : Own} {w w' w0 : World} {a i N : Nat} {p g : Nat → Nat} {x : RS.W} {v : Wv}
theorem u64_key {T : Nat} (h : T < 2 ^ 64) : keyOf Try.prog 22 (.int .u64 (T : Int)) = some (.int .u64 (T : Int)) := keyOf_int_mk Try.underlying22 (Go.WalkArith.wf_u64 ⟨by omega, by omega⟩)
theorem LdAt.look {lp : Nat} {L : Nat → Option Nat} (h : LdAt w lp L) {T : Nat} (hT : T < 2 ^ 64) : ∃ c : Int, (∀ W : World, W.heap[lp]? = w.heap[lp]? → (Instr.lookup 143 (.map (some lp)) (.int .u64 (T : Int)) true).run Try.prog W = .ok (.tuple #[.int .i64 c, .bool (L T).isSome]) W) ∧ ∀ i, L T = some i → c = i := by
 obtain ⟨D, hown, hn, hD⟩ := h
 obtain ⟨c, hc⟩ : ∃ c : Int, D.atKey (.int .u64 (T : Int)) (.lit (.int .i64 0)) = .lit (.int .i64 c) := by
  obtain ⟨v, ps, _, hv⟩ := hown.look_ok law22 Try.underlying143 (zero3 w) (plainElem_int Try.underlying3 (by decide)) (u64_key hT)
  obtain ⟨c, _, h1, _⟩ := plainElem_int_inv Try.underlying3 hv
  exact ⟨c, congrArg Prod.fst h1⟩
 refine ⟨c, fun W hW => ?_, fun i e => ?_⟩
 · have hownW : W.ownsMap (H := Unit) Try.prog 22 (plainElem Try.prog 3) lp (Maps.size D) D := by
    obtain ⟨es, clock, h1, h2⟩ := hown
    exact ⟨es, clock, hW.trans h1, h2⟩
   obtain ⟨v, ps, hr, hv⟩ := hownW.look_ok law22 Try.underlying143 (zero3 W) (plainElem_int Try.underlying3 (by decide)) (u64_key hT)
   obtain ⟨c', rfl, h1, _⟩ := plainElem_int_inv Try.underlying3 hv
   have h2 := (congrArg Prod.fst h1).symm.trans hc
   have h2 : c' = c := by cases h2; rfl
   subst h2
   rw [(hD T hT).1] at hr
   exact hr
 · have h1 := hc.symm.trans ((hD T hT).2 i e)
   cases h1; rfl
theorem countP_one (f : Nat → Bool) {T : Nat} (hf : f T = false) : ∀ n, (List.range n).countP (fun t => if t = T then true else f t) = (List.range n).countP f + (if T < n then 1 else 0) := by
 intro n
 induction n with
 | zero => rfl
 | succ n ih =>
  rw [List.range_succ, List.countP_append, List.countP_append, ih]
  by_cases h : n = T
  · subst h
    simp [hf]
  · have h1 : (T < n + 1) = (T < n) := propext ⟨fun h2 => by omega, fun h2 => by omega⟩
    simp [h, h1]
    omega
theorem owns_tight {lp n : Nat} {D : DataW Unit} (h : w.ownsMap (H := Unit) Try.prog 22 (plainElem Try.prog 3) lp n D) : w.ownsMap (H := Unit) Try.prog 22 (plainElem Try.prog 3) lp (Maps.size D) D := by
 obtain ⟨es, clock, h1, h2, h3, h4⟩ := h
 refine ⟨es, clock, h1, h2, ?_, h4⟩
 rw [h4]
 simp [Maps.size, length_sorted]
theorem LdAt.put {lp : Nat} {L : Nat → Option Nat} (h : LdAt w lp L) {T k : Nat} (hT : T < 1000000) (hk : k < 7) {D : DataW Unit} (hD : w.ownsMap (H := Unit) Try.prog 22 (plainElem Try.prog 3) lp (Maps.size D) D ∧ Maps.size D ≤ (List.range 1000000).countP (fun T => (L T).isSome) ∧ ∀ T : Nat, T < 2 ^ 64 → (Maps.has D (.int .u64 (T : Int)) = (L T).isSome) ∧ ∀ i, L T = some i → D.atKey (.int .u64 (T : Int)) (.lit (.int .i64 0)) = .lit (.int .i64 (i : Int)))
 (hw : w'.ownsMap (H := Unit) Try.prog 22 (plainElem Try.prog 3) lp (Maps.size D + 1) (D.put (.int .u64 (T : Int)) (.lit (.int .i64 (k : Int))))) : LdAt w' lp (fun t => if t = T then some k else L t) := by
 obtain ⟨hown, hn, hL⟩ := hD
 have hti := hown.tidy law22
 refine ⟨_, owns_tight hw, ?_, fun t ht => ?_⟩
 · rw [size_put hti]
   have hf := (hL T (by omega)).1
   cases hh : (L T).isSome with
   | true =>
    rw [hf, hh, if_pos rfl]
    refine Nat.le_trans hn (Nat.le_of_eq (List.countP_congr fun t _ => ?_))
    by_cases e : t = T
    · subst e; simp [hh]
    · simp [e]
   | false =>
    rw [hf, hh, if_neg (by decide)]
    have h1 := countP_one (fun t => (L t).isSome) hh 1000000
    rw [if_pos hT] at h1
    have h2 : (List.range 1000000).countP (fun t => (if t = T then some k else L t).isSome) = (List.range 1000000).countP (fun t => if t = T then true else (L t).isSome) := List.countP_congr fun t _ => by
     by_cases e : t = T
     · simp [e]
     · simp [e]
    rw [h2, h1]
    omega
 · by_cases e : t = T
   · subst e
     refine ⟨?_, fun i e => ?_⟩
     · show _ = (if t = t then some k else L t).isSome
       rw [has_put_same (k := .int .u64 (t : Int)) hti.isMap trivial, if_pos rfl]; rfl
     · have e : (if t = t then some k else L t) = some i := e
       rw [if_pos rfl] at e
       cases e
       exact atKey_put_same (k := .int .u64 (t : Int)) hti.isMap trivial _ _
   · have hne : (Lit.int .u64 (t : Int)) ≠ .int .u64 (T : Int) := fun h => by injection h with _ h; omega
     show _ = (if t = T then some k else L t).isSome ∧ ∀ i, (if t = T then some k else L t) = some i → _
     rw [has_put_other hne, if_neg e]
     refine ⟨(hL t ht).1, fun i h => ?_⟩
     rw [atKey_put_other hne]
     exact (hL t ht).2 i h
end
end Go.Proofs.Yteellfgiejnigaa
