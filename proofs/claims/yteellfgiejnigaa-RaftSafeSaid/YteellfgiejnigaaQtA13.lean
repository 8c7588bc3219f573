/- RaftSafe: G7. -/
import Derived.Test.YteellfgiejnigaaQtA00
import Derived.Test.YteellfgiejnigaaQtA12
import Derived.Deep.Cut
namespace Go.Proofs.Yteellfgiejnigaa
open Go.ChangeShapes Go.WideShapes Go.ChangeAt Go.RowKit
set_option linter.unusedVariables false
def RegG {α : Type} (R : Rep α) (e : TypeId) (u : Value) (S0 : Foot) (B0 : Nat) (l : List α) (x y : World) : Prop := Touch (fun b => u.ownBlock = some b ∨ B0 ≤ b) x y ∧ (RoG R x S0 e u l → RoG R y S0 e u l)
section
variable {α : Type} {R : Rep α} {e : TypeId}
theorem RegG.refl (u : Value) (S0 : Foot) (B0 : Nat) (l : List α) (x : World) : RegG R e u S0 B0 l x x := ⟨Touch.refl _ _, id⟩
theorem RegG.trans (u : Value) (S0 : Foot) (B0 : Nat) (l : List α) (x y z : World) (h : RegG R e u S0 B0 l x y) (k : RegG R e u S0 B0 l y z) : RegG R e u S0 B0 l x z := ⟨h.1.trans k.1 fun _ _ e => e, fun e => k.2 (h.2 e)⟩
theorem RegG.grow (u : Value) (S0 : Foot) (B0 : Nat) (l : List α) (x y : World) (h : RegT.Grow x y) : RegG R e u S0 B0 l x y := ⟨Touch.of_below h, fun e => e.keeps h.block⟩
end
theorem heap_setCell_same {w : World} {b k : Nat} {cs : Array Value} {t : TypeId} {fr : Nat × Nat} (h : w.heap[b]? = some (.cells cs t fr)) (v : Value) : (w.setCell ⟨b, k, none⟩ v).heap[b]? = some (.cells (cs.setIfInBounds k v) t fr) := by
 simp only [World.setCell, Array.getElem?_modify, h, if_true, Option.map_some]
 rfl
theorem load_row {o : Oper} {e : Operand → Value} {W : World} {N : Nat} {cs : Array Value} {t : TypeId} {fr : Nat × Nat} {d : TypeDesc} (ty : TypeId) (x : Operand) (ho : o.op = .load ty x) (hx : e x = .pointer (some ⟨N, 0, none⟩)) (h : W.heap[N]? = some (.cells cs t fr))
 (hu : Try.prog.underlying ty = some d) (hd : (match d with | .struct _ | .array _ _ => true | _ => false) = true) (hi : (Try.prog.info? ty).map (·.size) = some cs.size) :
 (execOp e o).run Try.prog W = .ok (.value (.agg cs)) W := by
 have hl := run_loadVar_row (P := Try.prog) W N t ty cs fr d h hu (by cases d <;> first | rfl | exact hd | cases hd) hi
 unfold execOp
 simp only [ho, hx, Instr.loadAt, Instr.sureAddr, Sem.run_bind, Sem.run_pure, Result.andThen_ok, hl]
def RowG {α : Type} (R : Rep α) (e : TypeId) (S : Foot) (x : α) (cs : List Value) (y : Value) (W : World) : Prop := ∃ N, y = .slice (some ⟨N, 0, none⟩) 1 1 ∧ W.heap[N]? = some (.cells cs.toArray e) ∧ R.rel W S x cs
theorem RowG.keeps {α : Type} {R : Rep α} {e : TypeId} {S : Foot} {x : α} {cs : List Value} {y : Value} {W W' : World} (h : RowG R e S x cs y W) (hk : Keeps W W') : RowG R e S x cs y W' := by
 obtain ⟨N, h1, h2, h3⟩ := h
 exact ⟨N, h1, (hk N (Array.getElem?_eq_some_iff.1 h2).1).trans h2, R.keeps h3 hk⟩
theorem row_cells {W : World} {N : Nat} {cs : List Value} {e : TypeId} (h : W.heap[N]? = some (.cells cs.toArray e)) : ∀ j u, cs[j]? = some u → W.cell? ((⟨N, 0, none⟩ : Addr).add j) = some u := by
 intro j u hu
 rw [Addr.add_mid, cell_of_row _ _ _ _ _ _ h, Nat.zero_add]
 simpa using hu
theorem helS : Elem Try.prog 97 164 (.agg #[.int .i64 0, .int .u8 0, .int .u64 0, .int .u64 0, .int .u64 0, .int .u64 0, .int .u64 0, .bool false, .slice none 0 0, .slice none 0 0]) 10 112 := ⟨Try.underlying97, by kernel_rfl, rfl, by decide⟩
theorem helI : Elem Try.prog 98 3 (.int .i64 0) 1 8 := ⟨Try.underlying98, by kernel_rfl, rfl, by decide⟩
theorem RoG.apart {α β : Type} {R : Rep α} {Q : Rep β} {w : World} {S S' : Foot} {e e' : TypeId} {v u : Value} {l : List α} {m : List β} (h : RoG R w S e v l) (k : RoG Q w S' e' u m) (hne : e ≠ e') : ∀ b, v.ownBlock = some b → u.ownBlock ≠ some b := by
 intro b h1 h2
 rcases h with ⟨rfl, _⟩ | ⟨g, cap, cur, rfl, _, hh, _⟩
 · cases h1
 · rcases k with ⟨rfl, _⟩ | ⟨g', cap', cur', rfl, _, hh', _⟩
   · cases h2
   · cases h1; cases h2
     rw [hh] at hh'
     cases hh'
     exact hne rfl
theorem RoC.int {w w' : World} {S S' : Foot} {xs : List Value} {l : List Nat} (h : RoC intR w S xs l) : RoC intR w' S' xs l := by
 induction h with
 | nil => exact .nil
 | cons hx h ih => exact .cons hx ih
theorem RoG.int {w w' : World} {S S' : Foot} {e : TypeId} {v : Value} {l : List Nat} (h : RoG intR w S e v l) (hs : ∀ g, v.ownBlock = some g → S' g ∧ w'.heap[g]? = w.heap[g]?) : RoG intR w' S' e v l := by
 rcases h with h | ⟨g, cap, cur, rfl, hg, hh, h1, h2, h3, h4⟩
 · exact .inl h
 · exact .inr ⟨g, cap, cur, rfl, (hs g rfl).1, (hs g rfl).2.trans hh, h1, h2, h3, h4.int⟩
theorem setq_se (p t0 : Nat) (who0 : Int) (x : Ov) (a : Option Addr) (n c : Nat) : (stc p x t0 who0).setIfInBounds 15 (.slice a n c) = stc p { x with sp := a, sn := n, sc := c } t0 who0 := rfl
section
variable {own own' : Own} {w w' : World} {i p q g t0 : Nat} {who0 : Int} {r : RS.Rf} {x : Ov} {o : RS.Ou} {M : Nat}
set_option maxRecDepth 100000 in
set_option maxHeartbeats 1000000 in
theorem send_w (own : Own) (i p q g t0 : Nat) (who0 : Int) (r : RS.Rf) (x : Ov) (o : RS.Ou) (w : World) (h : StAt own w i p q g t0 who0 r x o) (to : Nat) (nt : RS.Nt) (k t rd ix at' cm : Int) (y : Bool) (pl : Option Addr) (nl cl : Nat) (pd : Option Addr) (nd cd : Nat)
 (hk : k = (nt.kind : Int)) (hrd : rd = (nt.round : Int)) (hix : ix = (nt.index : Int)) (hat : at' = (nt.at_ : Int)) (hcm : cm = (nt.commit : Int)) (hy : y = nt.yes)
 (hl : EsR w (OffS (OffS (Ft own 7 q) (.slice x.np x.nn x.nc)) (Value.slice x.sp x.sn x.sc)) (.slice pl nl cl) nt.list) (hd : DatA w (OffS (OffS (Ft own 7 q) (.slice x.np x.nn x.nc)) (Value.slice x.sp x.sn x.sc)) (.slice pd nd cd) []) (hs : o.send.length ≤ 100000) :
 Calls Try.prog 120 #[.pointer (some ⟨q, 0, none⟩), .int .i64 (to : Int), .agg #[.int .u8 k, .int .u64 t, .int .u64 rd, .int .u64 ix, .int .u64 at', .int .u64 cm, .bool y, .slice pl nl cl, .slice pd nd cd]] w fun e w' =>
  (∃ v, e = .returned v) ∧ ∃ own' x', StAt own' w' i p q g t0 who0 r x' (r.put o to nt) ∧ x'.ap = x.ap ∧ x'.an = x.an ∧ x'.ac = x.ac ∧ Mv (fun l => l = 7) own w own' w' := by
 have hqs := h.lt
 obtain ⟨w1, hw1⟩ : ∃ w1, w.alloc (.cells #[.int .u8 k, .int .u64 t, .int .u64 rd, .int .u64 ix, .int .u64 at', .int .u64 cm, .bool y, .slice pl nl cl, .slice pd nd cd] 31) = w1 := ⟨_, rfl⟩
 have hm0 := Mv.alloc own w (.cells #[.int .u8 k, .int .u64 t, .int .u64 rd, .int .u64 ix, .int .u64 at', .int .u64 cm, .bool y, .slice pl nl cl, .slice pd nd cd] 31) 9
 have hz := heap_alloc_new w (.cells #[.int .u8 k, .int .u64 t, .int .u64 rd, .int .u64 ix, .int .u64 at', .int .u64 cm, .bool y, .slice pl nl cl, .slice pd nd cd] 31)
 have h1 := h.mv hm0 id id
 have hl1 := (footed_esr _ _).move hl fun b hb e => ⟨(⟨⟨⟨(hm0.lab b hb).trans e.1.1.1, e.1.1.2⟩, e.1.2⟩, e.2⟩ : OffS (OffS (Ft (ext own w.heap.size 9) 7 q) (.slice x.np x.nn x.nc)) (Value.slice x.sp x.sn x.sc) b), hm0.same hb id⟩
 have hd1 := (footed_dat _ _).move hd fun b hb e => ⟨(⟨⟨⟨(hm0.lab b hb).trans e.1.1.1, e.1.1.2⟩, e.1.2⟩, e.2⟩ : OffS (OffS (Ft (ext own w.heap.size 9) 7 q) (.slice x.np x.nn x.nc)) (Value.slice x.sp x.sn x.sc) b), hm0.same hb id⟩
 have hl9 : ext own w.heap.size 9 w.heap.size = 9 := ext_ge (Nat.le_refl _)
 rw [hw1] at hm0 hz h1 hl1 hd1
 clear h hl hd
 generalize ext own w.heap.size 9 = own1 at *
 obtain ⟨N, hN⟩ : ∃ N, N = w.heap.size := ⟨_, rfl⟩
 have hm2 : Mv (fun l => l = 9) own1 w1 own1 (w1.setCell ⟨N, 1, none⟩ (.int .u64 (r.term : Int))) := Mv.set (a := ⟨N, 1, none⟩) (by show own1 N = 9; rw [hN]; exact hl9) _
 have hi7 := h1.nd.hi
 have h2 := h1.mv hm2 (by omega) (by omega)
 have hl2 := (footed_esr _ _).move hl1 fun b hb e => ⟨e, hm2.same hb (by rw [e.1.1.1]; omega)⟩
 have hd2 := (footed_dat _ _).move hd1 fun b hb e => ⟨e, hm2.same hb (by rw [e.1.1.1]; omega)⟩
 have hz2 := heap_setCell_same (k := 1) (by rw [hN]; exact hz : w1.heap[N]? = _) (.int .u64 (r.term : Int))
 have hm3 : Mv (fun l => l = 7) own w own1 (w1.setCell ⟨N, 1, none⟩ (.int .u64 (r.term : Int))) := (hm0.weak (L' := fun l => l = 7)).newCell (a := ⟨N, 1, none⟩) (by show w.heap.size ≤ N; omega) _
 have hq0 : w1.cell? ⟨q, 0, none⟩ = some (.pointer (some ⟨p, 0, none⟩)) := h1.c 0
 have hp3 : w1.cell? ⟨p, 3, none⟩ = some (.int .u64 (r.term : Int)) := h1.nd.c 3
 have hn1 : w1.cell? ⟨w.heap.size, 1, none⟩ = some (.int .u64 t) := by rw [cell_of_row _ _ _ _ _ _ hz]; rfl
 have hf1 : w1.frozen? ⟨w.heap.size, 1, none⟩ = false := by simp [World.frozen?, hz]
 have HW := zh hw1
 have HN := zh hN
 have H2 := zh h2
 have HL := zh hl2
 have HD := zh hd2
 have HZ := zh hz2
 have HM := zh hm3
 have hlt1 := (Array.getElem?_eq_some_iff.1 hz).1
 have Hlt := zh (show N < (w1.setCell ⟨N, 1, none⟩ (.int .u64 (r.term : Int))).heap.size by simp [World.setCell]; omega)
 have H9 := zh (show own1 N = 9 by rw [hN]; exact hl9)
 have HE := zh (And.intro hk (And.intro hrd (And.intro hix (And.intro hat (And.intro hcm hy)))))
 clear hk hrd hix hat hcm hy
 clear hw1 hm0 hz h1 hl1 hd1 hl9 hm2 h2 hl2 hd2 hz2 hm3 hlt1
 go_enter Try.func120, Try.ntmps120
 go_upto_region 1 with (fail)
 rw [HW.out]
 go_wp2
 rw [← HN.out] at *
 clear hq0 hp3 hn1 hf1 HW
 generalize w1.setCell ⟨N, 1, none⟩ (.int .u64 (r.term : Int)) = w2 at *
 have hse := H2.out.ov.se.mono (S' := fun b => OffS (Ft own1 7 q) (.slice x.np x.nn x.nc) b ∧ b < w2.heap.size) fun b hb e => ⟨e, hb⟩
 obtain ⟨own2, hown2⟩ : ∃ own2, own2 = ext own1 w2.heap.size 7 := ⟨_, rfl⟩
 have h2lt : ∀ b, b < w2.heap.size → own2 b = own1 b := fun b hb => by rw [hown2]; exact ext_lt hb
 have h2ge : ∀ b, w2.heap.size ≤ b → own2 b = 7 := fun b hb => by rw [hown2]; exact ext_ge hb
 have hqs2 := H2.out.lt
 have hoq := H2.out.oq
 have own9 : ∀ b, (Value.slice x.sp x.sn x.sc).ownBlock = some b → own1 b = 7 ∧ b ≠ q ∧ b < w2.heap.size := fun b e => ⟨(hse.foot b e).1.1.1.1, (hse.foot b e).1.1.1.2, (hse.foot b e).2⟩
 have same : ∀ (W : World), RegG sentR 164 (Value.slice x.sp x.sn x.sc) (fun b => OffS (Ft own1 7 q) (.slice x.np x.nn x.nc) b ∧ b < w2.heap.size) w2.heap.size o.send w2.drew W → ∀ b, b < w2.heap.size → (Value.slice x.sp x.sn x.sc).ownBlock ≠ some b → W.heap[b]? = w2.heap[b]? := fun W hR b hb hne =>
  hR.1.block b hb (fun e => e.elim hne (fun e => by have e : w2.heap.size ≤ b := e; omega))
 have Hsl := zh (fun (W : World) (hR : RegG sentR 164 (Value.slice x.sp x.sn x.sc) (fun b => OffS (Ft own1 7 q) (.slice x.np x.nn x.nc) b ∧ b < w2.heap.size) w2.heap.size o.send w2.drew W) => (show W.cell? ⟨q, 15, none⟩ = some (.slice x.sp x.sn x.sc) from
  (World.cell?_of_block (a := ⟨q, 15, none⟩) (same W hR q hqs2 (fun e => (own9 q e).2.1 rfl))).trans (H2.out.c 15)))
 have Hnote := zh (fun (W : World) (hR : RegG sentR 164 (Value.slice x.sp x.sn x.sc) (fun b => OffS (Ft own1 7 q) (.slice x.np x.nn x.nc) b ∧ b < w2.heap.size) w2.heap.size o.send w2.drew W) => (show W.heap[N]? = some (.cells #[.int .u8 k, .int .u64 (r.term : Int), .int .u64 rd, .int .u64 ix, .int .u64 at', .int .u64 cm, .bool y, .slice pl nl cl, .slice pd nd cd] 31) from
  (same W hR N Hlt.out (fun e => by have := (own9 N e).1; rw [H9.out] at this; omega)).trans HZ.out))
 have Hsent := zh (fun (W : World) (hR : RegG sentR 164 (Value.slice x.sp x.sn x.sc) (fun b => OffS (Ft own1 7 q) (.slice x.np x.nn x.nc) b ∧ b < w2.heap.size) w2.heap.size o.send w2.drew W) => (show sentR.rel W (OffS (OffS (Ft own2 7 q) (.slice x.np x.nn x.nc)) (Value.slice x.sp x.sn x.sc)) (to, ({ nt with term := r.term } : RS.Nt)) [.int .i64 (to : Int), .int .u8 k, .int .u64 (r.term : Int), .int .u64 rd, .int .u64 ix, .int .u64 at', .int .u64 cm, .bool y, .slice pl nl cl, .slice pd nd cd] from by
  refine ⟨_, rfl, _, _, ?_, (footed_esr _ _).move HL.out fun b hb e => ⟨⟨⟨⟨(h2lt b hb).trans e.1.1.1, e.1.1.2⟩, e.1.2⟩, e.2⟩, same W hR b hb e.2⟩, (footed_dat _ _).move HD.out fun b hb e => ⟨⟨⟨⟨(h2lt b hb).trans e.1.1.1, e.1.1.2⟩, e.1.2⟩, e.2⟩, same W hR b hb e.2⟩⟩
  obtain ⟨e1, e2, e3, e4, e5, e6⟩ := HE.out
  rw [e1, e2, e3, e4, e5, e6]
  rfl))
 have Happ := zh (fun (W : World) (hR : RegG sentR 164 (Value.slice x.sp x.sn x.sc) (fun b => OffS (Ft own1 7 q) (.slice x.np x.nn x.nc) b ∧ b < w2.heap.size) w2.heap.size o.send w2.drew W) (N2 : Nat) (hN2 : W.heap[N2]? = some (.cells [.int .i64 (to : Int), .int .u8 k, .int .u64 (r.term : Int), .int .u64 rd, .int .u64 ix, .int .u64 at', .int .u64 cm, .bool y, .slice pl nl cl, .slice pd nd cd].toArray 164)) (hrel : sentR.rel W (OffS (OffS (Ft own2 7 q) (.slice x.np x.nn x.nc)) (Value.slice x.sp x.sn x.sc)) (to, ({ nt with term := r.term } : RS.Nt)) [.int .i64 (to : Int), .int .u8 k, .int .u64 (r.term : Int), .int .u64 rd, .int .u64 ix, .int .u64 at', .int .u64 cm, .bool y, .slice pl nl cl, .slice pd nd cd]) => (show ∃ v' w', (Builtin.append_ #[97, 97] 97 #[.slice x.sp x.sn x.sc, .slice (some ⟨N2, 0, none⟩) 1 1]).run Try.prog W = .ok v' w' ∧ RoG sentR w' (OffS (Ft own2 7 q) (.slice x.np x.nn x.nc)) 164 v' (o.send ++ [(to, ({ nt with term := r.term } : RS.Nt))]) ∧ RegG sentR 164 (Value.slice x.sp x.sn x.sc) (fun b => OffS (Ft own1 7 q) (.slice x.np x.nn x.nc) b ∧ b < w2.heap.size) w2.heap.size o.send W w' from by
  obtain ⟨v', w', hr, ho', hg, hnew, hold⟩ := run_append_rog (R := sentR) (P := Try.prog) (t := 97) (ty := 97) (c := 1) (S' := OffS (Ft own2 7 q) (.slice x.np x.nn x.nc)) helS (hR.2 (hse.keeps (Keeps.refl w2).drew)) (RoC.cons hrel .nil) (.inr ⟨⟨N2, 0, none⟩, rfl, fun j u hu => row_cells hN2 j u (by simpa using hu)⟩)
   (by unfold maxLen; simp; omega) (by simp; omega) (fun b hb => ⟨⟨(h2lt b hb.2).trans hb.1.1.1, hb.1.1.2⟩, hb.1.2⟩) ⟨⟨h2ge _ hR.1.size, fun e => by have := hR.1.size; have e2 : w2.drew.heap.size ≤ W.heap.size := this; rw [drew_size] at e2; omega⟩, fun e => by have e1 := (H2.out.ov.ne.foot _ e).2; have e2 : w2.drew.heap.size ≤ W.heap.size := hR.1.size; rw [drew_size] at e2; omega⟩
  exact ⟨v', w', hr, ho', Touch.of_grownBy hg fun b e => .inl e, fun _ => hold⟩))
 have Hse := zh hse
 have H2lt := zh h2lt
 have H2ge := zh h2ge
 have Hsame := zh same
 have Hown9 := zh own9
 clear hse h2lt h2ge same own9 hown2
 apply RegT.wp_region_T rfl 28 14 rfl (by kernel_rfl) (RegG sentR 164 (Value.slice x.sp x.sn x.sc) (fun b => OffS (Ft own1 7 q) (.slice x.np x.nn x.nc) b ∧ b < w2.heap.size) w2.heap.size o.send) (RegG.refl _ _ _ _) (RegG.trans _ _ _ _)
 ·
  iterate 5
   apply RegT.T_pure rfl rfl rfl
   · intro W hR; clear hR; go_simp; rfl
   simp only [List.set_cons_succ, List.set_cons_zero, Nat.reduceAdd]
  apply RegT.T_pure (v := .slice x.sp x.sn x.sc) rfl rfl rfl
  · intro W hR
    have hc := Hsl.out W hR
    clear hR
    go_simp
  simp only [List.set_cons_succ, List.set_cons_zero, Nat.reduceAdd]
  apply RegT.T_pure rfl rfl rfl
  · intro W hR; clear hR; go_simp; rfl
  simp only [List.set_cons_succ, List.set_cons_zero, Nat.reduceAdd]
  apply RegT.T_pure rfl rfl rfl
  · exact fun W hR => load_row 31 (.tmp 5) rfl rfl (Hnote.out W hR) Try.underlying31 rfl (show _ = some 9 by kernel_rfl)
  simp only [List.set_cons_succ, List.set_cons_zero, Nat.reduceAdd]
  apply RegT.T_pure rfl rfl rfl
  · intro W hR; clear hR; go_simp; rfl
  simp only [List.set_cons_succ, List.set_cons_zero, Nat.reduceAdd]
  apply RegT.T_predC rfl rfl rfl 10 (RowG sentR 164 (OffS (OffS (Ft own2 7 q) (.slice x.np x.nn x.nc)) (Value.slice x.sp x.sn x.sc)) (to, ({ nt with term := r.term } : RS.Nt)) [.int .i64 (to : Int), .int .u8 k, .int .u64 (r.term : Int), .int .u64 rd, .int .u64 ix, .int .u64 at', .int .u64 cm, .bool y, .slice pl nl cl, .slice pd nd cd]) (RegG.grow _ _ _ _) (fun y x z hR h => h.keeps hR.block)
  · intro W hR hf0
    have hk := Hsent.out W hR
    clear hR hf0
    go_simp
    exact RegT.OpOK_value ⟨⟨_, rfl, heap_alloc_new W _, sentR.keeps hk ((Keeps.refl W).alloc _)⟩, (Below.refl _ _).alloc (Nat.le_refl _) _⟩
  intro v9
  simp only [List.set_cons_succ, List.set_cons_zero, Nat.reduceAdd]
  apply RegT.T_write rfl rfl rfl none (fun y W => RoG sentR W (OffS (Ft own2 7 q) (.slice x.np x.nn x.nc)) 164 y (o.send ++ [(to, ({ nt with term := r.term } : RS.Nt))])) (fun y x z hR h => h.keeps hR.block)
  · intro W hR hf0
    obtain ⟨N2, rfl, hN2, hrel⟩ := hf0 _ (.head _) (by kernel_rfl) (.inr rfl)
    obtain ⟨v', w', hr, ho', hRR⟩ := Happ.out W hR N2 hN2 hrel
    exact append_ok (.tmp 19) (.tmp 23) rfl rfl rfl hr ⟨ho', hRR⟩
  intro v10
  simp only [List.set_cons_succ, List.set_cons_zero, Nat.reduceAdd]
  iterate 3
   apply RegT.T_pure rfl rfl rfl
   · intro W hR; clear hR; go_simp; rfl
   simp only [List.set_cons_succ, List.set_cons_zero, Nat.reduceAdd]
  refine RegT.T_tail (fun W hR hf0 => ?_)
  have hy : RoG sentR W (OffS (Ft own2 7 q) (.slice x.np x.nn x.nc)) 164 v10 (o.send ++ [(to, ({ nt with term := r.term } : RS.Nt))]) := hf0 _ (.head _) (.inl rfl)
  obtain ⟨p8, c8, rfl⟩ := hy.form
  generalize hn8 : (o.send ++ [(to, ({ nt with term := r.term } : RS.Nt))]).length = n8 at *
  clear hn8
  have hcq := Hsl.out W hR
  have hqrow : W.heap[q]? = some (.cells (stc p x t0 who0) 176) := (Hsame.out W hR q hqs2 (fun e => (Hown9.out q e).2.1 rfl)).trans H2.out.rq
  have hfq : W.frozen? ⟨q, 15, none⟩ = false := by simp [World.frozen?, hqrow]
  have hMW : Mv (fun l => l = 7) own1 w2 own2 W := ⟨⟨hR.1.os, hR.1.tape, hR.1.output, hR.1.size, fun b hb hn => Hsame.out W hR b hb (fun e => hn (Hown9.out b e).1)⟩, fun b hb => H2lt.out b hb⟩
  have hSW : NdAt own2 W i p g r := H2.out.nd.mv hMW (by omega)
  have hne : RoG intR W (Ft own2 7 q) 3 (.slice x.np x.nn x.nc) o.need := H2.out.ov.ne.int fun b e => by
   have hf := H2.out.ov.ne.foot b e
   exact ⟨⟨(H2lt.out b hf.2).trans hf.1.1, hf.1.2⟩, Hsame.out W hR b hf.2 (H2.out.ov.ne.apart H2.out.ov.se (by decide) b e)⟩
  have Hfin := zh (show StAt own2 (W.setCell ⟨q, 15, none⟩ (.slice p8 n8 c8)) i p q g t0 who0 r { x with sp := p8, sn := n8, sc := c8 } (r.put o to nt) from by
   refine StAt.setq (x := x) (o := o) ⟨hSW, hqrow, (H2lt.out q hqs2).trans hoq, ?_⟩ 15 _ _ _ (setq_se _ _ _ _ _ _ _) ⟨H2.out.ov.an, hy, hne⟩
   exact ⟨H2.out.ov.an, (hR.2 (Hse.out.keeps (Keeps.refl w2).drew)).mono fun b hb e => ⟨⟨(H2lt.out b e.2).trans e.1.1.1, e.1.1.2⟩, e.1.2⟩, hne⟩)
  have HMW := zh (HM.out.trans (hMW.trans (Mv.set (L := fun l => l = 7) (own := own2) (a := ⟨q, 15, none⟩) ((H2lt.out q hqs2).trans hoq) (.slice p8 n8 c8))))
  clear hR hf0 hy hqrow hMW hSW hne
  simp only [List.drop_succ_cons, List.drop_zero]
  go_wp2
  go_end0
  exact ⟨⟨_, rfl⟩, _, _, Hfin.out, rfl, rfl, rfl, HMW.out⟩
 · rfl
 · kernel_rfl
end
end Go.Proofs.Yteellfgiejnigaa
