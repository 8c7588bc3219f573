/- RaftSafe: G56. -/
import Derived.Test.YteellfgiejnigaaQtA00
import Derived.Test.YteellfgiejnigaaQtA35
namespace Go.Proofs.Yteellfgiejnigaa
open Go.ChangeShapes Go.WideShapes Go.ChangeAt Go.RowKit
set_option linter.unusedVariables false
section
variable {own own' own0 : Own} {w w' w0 : World} {a i N : Nat} {p g : Nat → Nat} {x : RS.W} {v : Wv} {L : Nat → Prop}
def Wev (own : Own) (w : World) (a : Nat) (x : RS.W) (w' : World) : Prop := ∃ own' p' g' v', WdAt own' w' a p' g' x v' ∧ Mv (fun l => l ≠ 9) own w own' w'
theorem roc_one {α : Type} {R : Rep α} {f : α → Value} (hR : ∀ w S y cs, R.rel w S y cs ↔ cs = [f y]) {S : Foot} {xs : List Value} {l : List α} : RoC R w S xs l ↔ xs = l.map f := by
 constructor
 · intro h
   induction h with
   | nil => rfl
   | cons hx h ih => rw [(hR _ _ _ _).1 hx, ih]; rfl
 · intro h
   subst h
   induction l with
   | nil => exact .nil
   | cons y l ih => exact RoC.cons (cs := [f y]) ((hR _ _ _ _).2 rfl) ih
theorem RoG.put1 {α : Type} {R : Rep α} {f : α → Value} (hR : ∀ w S y cs, R.rel w S y cs ↔ cs = [f y]) (hk : R.k = 1) {S : Foot} {e : TypeId} {b off n c : Nat} {l : List α} (h : RoG R w S e (.slice (some ⟨b, off, none⟩) n c) l) {i : Nat} (hi : i < l.length) (y : α) :
 RoG R (w.setCell ⟨b, off + i, none⟩ (f y)) S e (.slice (some ⟨b, off, none⟩) n c) (l.set i y) := by
 rcases h with ⟨e1, _⟩ | ⟨g, cap, cur, e1, hg, hh, h1, h2, h3, h4⟩
 · cases e1
 · injection e1 with e1 e2 e3
   injection e1 with e1
   injection e1 with e1 e4
   subst e1; subst e2; subst e3; subst e4
   rw [hk, Nat.mul_one] at h3 h4
   refine .inr ⟨b, c, cur.setIfInBounds (0 + i) (f y), by rw [List.length_set], hg, heap_setCell_same hh _, by rw [List.length_set]; exact h1, h2, by rw [hk, Nat.mul_one, Array.size_setIfInBounds]; exact h3, ?_⟩
   have h5 := (roc_one hR).1 h4
   rw [hk, Nat.mul_one, List.length_set]
   refine (roc_one hR).2 ?_
   rw [Array.toList_setIfInBounds, Nat.zero_add, List.take_set, h5, List.map_set]
theorem range_set {α : Type} (f : Nat → α) (n i : Nat) (y : α) : ((List.range n).map f).set i y = (List.range n).map (fun j => if j = i then y else f j) := by
 apply List.ext_getElem?
 intro j
 rw [List.getElem?_set, List.getElem?_map, List.getElem?_map, List.length_map, List.length_range]
 by_cases hj : j < n
 · rw [List.getElem?_range hj]
   by_cases e : i = j
   · subst e; simp [hj]
   · have e2 : ¬ j = i := fun h => e h.symm
     simp [e, e2]
 · rw [List.getElem?_eq_none (by rw [List.length_range]; omega)]
   by_cases e : i = j
   · subst e; simp [hj]
   · simp [e]
theorem WdAt.renew (h : WdAt own w a p g x v) (m : Mv (fun l => l = i) own w own' w') (hi : i < x.n) {P g9 : Nat} {r' : RS.Rf} (hn : NdAt own' w' i P g9 r') (hrn : r'.n = (x.r i).n) {b off c : Nat} (hb : own b = 11) (hlt : b < w.heap.size) (h3 : w.cell? ⟨a, 3, none⟩ = some (.slice (some ⟨b, off, none⟩) x.n c)) :
 WdAt own' (w'.setCell ⟨b, off + i, none⟩ (.pointer (some ⟨P, 0, none⟩))) a (fun j => if j = i then P else p j) (fun j => if j = i then g9 else g j) (x.set i r') v ∧ Mv (fun l => l = i ∨ l = 11) own w own' (w'.setCell ⟨b, off + i, none⟩ (.pointer (some ⟨P, 0, none⟩))) := by
 have h7 := h.n7
 have hv : some (Value.slice v.rp v.rn v.rc) = some (.slice (some ⟨b, off, none⟩) x.n c) := (h.cell 3).symm.trans h3
 injection hv with hv
 have hob : own' b = 11 := (m.lab b hlt).trans hb
 have m2 : Mv (fun l => l = 11) own' w' own' (w'.setCell ⟨b, off + i, none⟩ (.pointer (some ⟨P, 0, none⟩))) := Mv.set (L := fun l => l = 11) (a := ⟨b, off + i, none⟩) hob _
 have m3 := (m.mono (L' := fun l => l = i ∨ l = 11) fun l e => .inl e).trans (m2.mono fun l e => .inr e)
 have hx : ∀ l, 10 ≤ l → l ≠ 11 → ¬ (l = i ∨ l = 11) := fun l hl h2 e => by omega
 have hr : RoG ptrR w' (fun b => own' b = 11) 86 (.slice v.rp v.rn v.rc) ((List.range x.n).map p) := h.r.lab m (by omega)
 rw [hv] at hr
 refine ⟨⟨h.n7, fun j hj => ?_, (m3.same h.lt (by rw [h.oa]; exact hx 10 (by omega) (by omega))).trans h.row, (m3.lab a h.lt).trans h.oa, ?_, h.u.lab m3 (hx 12 (by omega) (by omega)), h.m.lab m3 (hx 13 (by omega) (by omega)), h.c.lab m3 (hx 14 (by omega) (by omega)),
  h.l.same (m3.same h.l.lt (by rw [h.ol]; exact hx 15 (by omega) (by omega))), (m3.lab _ h.l.lt).trans h.ol, h.Tx, fun j hj => ?_⟩, m3⟩
 · have hj' : j < x.n := hj
   show NdAt own' _ j (if j = i then P else p j) (if j = i then g9 else g j) (if j = i then r' else x.r j)
   by_cases e : j = i
   · subst e; rw [if_pos rfl, if_pos rfl, if_pos rfl]; exact hn.mv m2 (by omega)
   · rw [if_neg e, if_neg e, if_neg e]; exact (h.nd j hj').mv m3 (by omega)
 · show RoG ptrR _ _ 86 (.slice v.rp v.rn v.rc) ((List.range x.n).map (fun j => if j = i then P else p j))
   rw [hv, ← range_set]
   exact RoG.put1 (f := fun P => .pointer (some ⟨P, 0, none⟩)) (fun _ _ _ _ => Iff.rfl) rfl hr (by rw [List.length_map, List.length_range]; exact hi) P
 · show (if j = i then r' else x.r j).n = v.N
   by_cases e : j = i
   · subst e; rw [if_pos rfl, hrn]; exact h.Nx _ hi
   · rw [if_neg e]; exact h.Nx j hj
def NewU (own : Own) (n i : Nat) (r : RS.Rf) (y : Value) (W : World) : Prop := ∃ P g, y = .tuple #[.pointer (some ⟨P, 0, none⟩), .int .i64 0] ∧ NdAt (ext own n i) W i P g r
def NewPU (own : Own) (n i : Nat) (r : RS.Rf) (y : Value) (W : World) : Prop := ∃ P g, y = .pointer (some ⟨P, 0, none⟩) ∧ NdAt (ext own n i) W i P g r
theorem NdAt.kept {r : RS.Rf} {P g : Nat} (h : NdAt own w i P g r) (hk : Keeps w w') : NdAt own w' i P g r := h.move fun b hb e => ⟨e, hk b hb⟩
theorem NewU.keeps {n : Nat} {r : RS.Rf} {y : Value} (h : NewU own n i r y w) (hk : Keeps w w') : NewU own n i r y w' := by obtain ⟨P, g, e, h1⟩ := h; exact ⟨P, g, e, h1.kept hk⟩
theorem NewPU.keeps {n : Nat} {r : RS.Rf} {y : Value} (h : NewPU own n i r y w) (hk : Keeps w w') : NewPU own n i r y w' := by obtain ⟨P, g, e, h1⟩ := h; exact ⟨P, g, e, h1.kept hk⟩
set_option maxRecDepth 100000 in
set_option maxHeartbeats 2000000 in
theorem crash_w (own : Own) (a : Nat) (p g : Nat → Nat) (x : RS.W) (v : Wv) (w : World) (h : WdAt own w a p g x v) (i : Nat) (hi : i < x.n) (M : Nat) (hb : Nb M (x.r i)) (hM : M ≤ 90000) (hid : (x.r i).id = i) (hT : (x.r i).T = x.T) (hwho : (x.r i).who < ((x.r i).n : Int)) (d : Nat) (hd : d < 2 ^ 64) :
 Calls Try.prog 101 #[.pointer (some ⟨a, 0, none⟩), .int .i64 (i : Int), .int .u64 (d : Int)] w fun e w' => e = .returned (.bool true) ∧ Wev own w a (x.set i ((x.r i).crash d)) w' := by
 have hn7 := h.n7
 obtain ⟨rb, ro, rc, hrb, hrlt, ha3, hpi⟩ := h.ptr hi
 have hN := h.Nx i hi
 have hTx := h.Tx
 have ha0 : w.cell? ⟨a, 0, none⟩ = some (.int .i64 ((x.r i).n : Int)) := (h.cell 0).trans (by rw [hN]; rfl)
 have ha1 : w.cell? ⟨a, 1, none⟩ = some (.int .i64 0) := h.cell 1
 have ha2 : w.cell? ⟨a, 2, none⟩ = some (.int .i64 ((x.r i).T : Int)) := (h.cell 2).trans (by rw [hT, ← hTx]; rfl)
 have hi0 : (0 : Int) ≤ (i : Int) := by omega
 have hin : (i : Int) < (x.n : Int) := by omega
 have HD := zh h
 have Hb := zh hb
 have Hid' := zh hid
 have Hwho := zh hwho
 have HR := zh (And.intro hrb (And.intro hrlt ha3))
 have HZ := zh (heap_alloc_new w (.cells #[.int .i64 0, .int .i64 0, .int .i64 0] 85))
 clear h hb hid hT hTx hN hwho hrb hrlt
 go_enter Try.func101, Try.ntmps101
 go_upto_region 3 with (refine wpList_store_rowTo rfl 85 (.tmp 8) (.tmp 21) rfl rfl _ #[.int .i64 ((x.r i).n : Int), .int .i64 0, .int .i64 ((x.r i).T : Int)] rfl rfl 85 _ HZ.out (show _ = some 3 by kernel_rfl) rfl (by simp [Value.oneCell']) ?_)
 rw [alloc_setRow]
 have HX3 := zh (Bx.new own w #[.int .i64 ((x.r i).n : Int), .int .i64 0, .int .i64 ((x.r i).T : Int)] 85)
 have m3 : Mv (fun _ => False) own w (ext own w.heap.size 9) (w.alloc (.cells #[.int .i64 ((x.r i).n : Int), .int .i64 0, .int .i64 ((x.r i).T : Int)] 85)) := Mv.alloc own w _ 9
 have HD3 := zh (HD.out.mv m3 fun l e => e.elim)
 have HM3 := zh m3
 clear HD HZ m3 ha0 ha1 ha2 ha3 hpi
 generalize w.alloc (.cells #[.int .i64 ((x.r i).n : Int), .int .i64 0, .int .i64 ((x.r i).T : Int)] 85) = w3 at *
 generalize ext own w.heap.size 9 = own1 at *
 have hc1 : w3.cell? ⟨w.heap.size, 1, none⟩ = some (.int .i64 0) := HX3.out.c 1
 have hf1 := HX3.out.frozen 1
 go_upto_region 4 with (fail)
 have m4 : Mv (fun l => l = 9) own1 w3 own1 (w3.setCell ⟨w.heap.size, 1, none⟩ (.int .i64 (i : Int))) := Mv.set (a := ⟨w.heap.size, 1, none⟩) HX3.out.lab _
 have Hc := zh (show Bx own1 (w3.setCell ⟨w.heap.size, 1, none⟩ (.int .i64 (i : Int))) w.heap.size #[.int .i64 ((x.r i).n : Int), .int .i64 (i : Int), .int .i64 ((x.r i).T : Int)] 85 from HX3.out.set 1 _)
 have HD4 := zh (HD3.out.mv m4 fun l e => by omega)
 have HM4 := zh (show Mv (fun l => l ≠ 9) own w own1 (w3.setCell ⟨w.heap.size, 1, none⟩ (.int .i64 (i : Int))) from (HM3.out.mono (L' := fun l => l ≠ 9) fun l e => e.elim).newCell (a := ⟨w.heap.size, 1, none⟩) (Nat.le_refl _) _)
 clear HX3 HD3 HM3 m4 hc1 hf1
 generalize w3.setCell ⟨w.heap.size, 1, none⟩ (.int .i64 (i : Int)) = w4 at *
 have Htm := zh (fun (W : World) (hR : RegT.Grow w4.drew W) => term_w own1 i (p i) (g i) (x.r i) W ((HD4.out.nd i hi).kept ((Keeps.refl w4).drew.trans hR.block)))
 have Hfr := zh (fun (W : World) (hR : RegT.Grow w4.drew W) => for_w own1 i (p i) (g i) (x.r i) W ((HD4.out.nd i hi).kept ((Keeps.refl w4).drew.trans hR.block)))
 have Htr := zh (fun (W : World) (hR : RegT.Grow w4.drew W) => track_w own1 i (p i) (g i) (x.r i) W ((HD4.out.nd i hi).kept ((Keeps.refl w4).drew.trans hR.block)) M Hb.out)
 have hfit : (x.r i).base + (x.r i).es.length ≤ 4611686018427387904 := by have h1 := Hb.out.base; have h2 := Hb.out.len; omega
 have Hnw := zh (fun (W : World) (N3 : Nat) (v3 : Value) (ht : TkAt W (fun b => w4.heap.size ≤ b) N3 (x.r i).base (x.r i).bt v3 (x.r i).es) => (show Calls Try.prog 55 #[.agg #[.int .i64 ((x.r i).n : Int), .int .i64 (i : Int), .int .i64 ((x.r i).T : Int)], .int .u64 ((x.r i).term : Int), .int .i64 (x.r i).who, .pointer (some ⟨N3, 0, none⟩), .int .u64 (d : Int)] W (NewP i ((x.r i).crash d) W) from by
  have h1 := new_ok_w i (by omega) (x.r i).n (x.r i).id (x.r i).T (x.r i).term (x.r i).who _ N3 (x.r i).base (x.r i).bt v3 (x.r i).es d W ht (by have := Hb.out.id; omega) Hb.out.n7 Hb.out.id Hb.out.T1 Hb.out.T2 Hb.out.who.1 Hwho.out (by have := Hb.out.len; omega) (fun e he => by have := (Hb.out.es e he).2; omega) hfit hd
  rw [← crash_eq, Hid'.out] at h1
  exact h1))
 clear hfit
 apply RegT.wp_region_T rfl 45 14 rfl (by kernel_rfl) RegT.Grow RegT.Grow.refl RegT.Grow.trans
 ·
  apply RegT.T_pure rfl rfl rfl
  · exact fun W hR => load_row 85 (.tmp 8) rfl rfl ((hR.block _ Hc.out.lt).trans Hc.out.row) Try.underlying85 rfl (show _ = some 3 by kernel_rfl)
  simp only [List.set_cons_succ, List.set_cons_zero, Nat.reduceAdd]
  apply RegT.T_pure rfl rfl rfl
  · intro W hR; clear hR; go_simp; rfl
  simp only [List.set_cons_succ, List.set_cons_zero, Nat.reduceAdd]
  apply RegT.T_const rfl rfl rfl (.int .u64 ((x.r i).term : Int)) (fun _ _ h => h)
  · intro W hR hf
    have Hc1 := zh (Htm.out W hR)
    clear hR hf
    go_simp
    exact RegT.OpOK_enter Hc1.out (fun e w' h => ⟨_, h.1, rfl, by rw [← h.2]; exact Below.refl _ _⟩)
  simp only [List.set_cons_succ, List.set_cons_zero, Nat.reduceAdd]
  apply RegT.T_pure rfl rfl rfl
  · intro W hR; clear hR; go_simp; rfl
  simp only [List.set_cons_succ, List.set_cons_zero, Nat.reduceAdd]
  apply RegT.T_const rfl rfl rfl (.int .i64 (x.r i).who) (fun _ _ h => h)
  · intro W hR hf
    have Hc1 := zh (Hfr.out W hR)
    clear hR hf
    go_simp
    exact RegT.OpOK_enter Hc1.out (fun e w' h => ⟨_, h.1, rfl, by rw [← h.2]; exact Below.refl _ _⟩)
  simp only [List.set_cons_succ, List.set_cons_zero, Nat.reduceAdd]
  apply RegT.T_pure rfl rfl rfl
  · intro W hR; clear hR; go_simp; rfl
  simp only [List.set_cons_succ, List.set_cons_zero, Nat.reduceAdd]
  apply RegT.T_pred rfl rfl rfl (NewTk w4.heap.size (x.r i).base (x.r i).bt (x.r i).es) (fun _ _ h => h) (fun y x z hR h => h.keeps hR.block)
  · intro W hR hf0
    have Hc1 := zh (Htr.out W hR)
    have hsz := zh (show w4.heap.size ≤ W.heap.size from hR.size)
    clear hR hf0
    go_simp
    exact RegT.OpOK_enter Hc1.out (fun e w' ⟨N, v', he, h1, h2, hB⟩ => ⟨_, he, ⟨N, v', rfl, Nat.le_trans hsz.out h1, h2.mono fun b _ hb => Nat.le_trans hsz.out hb⟩, hB⟩)
  intro v31
  simp only [List.set_cons_succ, List.set_cons_zero, Nat.reduceAdd]
  apply RegT.T_pure rfl rfl rfl
  · intro W hR; clear hR; go_simp; rfl
  simp only [List.set_cons_succ, List.set_cons_zero, Nat.reduceAdd]
  apply RegT.T_pred rfl rfl rfl (NewU own1 w4.heap.size i ((x.r i).crash d)) (fun _ _ h => h) (fun y x z hR h => h.keeps hR.block)
  · intro W hR hf0
    obtain ⟨N3, v3, rfl, hN3, htk⟩ := (show NewTk w4.heap.size (x.r i).base (x.r i).bt (x.r i).es v31 W from hf0 _ (.head _) (by kernel_rfl) (.inl rfl))
    have Hc1 := zh (Hnw.out W N3 v3 htk)
    have hsz := zh (show w4.heap.size ≤ W.heap.size from hR.size)
    clear hR hf0 htk
    go_simp
    exact RegT.OpOK_enter Hc1.out (fun e w' ⟨P, g9, he, h1, hB⟩ => ⟨_, he, ⟨P, g9, rfl, h1.move fun b hb e => by
    by_cases hlt : b < W.heap.size
    · rw [ext_lt hlt] at e; omega
    · exact ⟨ext_ge (by have := hsz.out; omega), rfl⟩⟩, hB⟩)
  intro v33
  simp only [List.set_cons_succ, List.set_cons_zero, Nat.reduceAdd]
  apply RegT.T_pred rfl rfl rfl (NewU own1 w4.heap.size i ((x.r i).crash d)) (fun _ _ h => h) (fun y x z hR h => h.keeps hR.block)
  · intro W hR hf0
    obtain ⟨P, g9, rfl, h1⟩ := (show NewU own1 w4.heap.size i ((x.r i).crash d) v33 W from hf0 _ (.head _) (by kernel_rfl) (.inl rfl))
    have Hh := zh h1
    clear hR hf0 h1
    go_simp
    exact RegT.OpOK_value ⟨⟨_, _, rfl, Hh.out⟩, Below.refl _ _⟩
  intro v24
  simp only [List.set_cons_succ, List.set_cons_zero, Nat.reduceAdd]
  apply RegT.T_pred rfl rfl rfl (NewPU own1 w4.heap.size i ((x.r i).crash d)) (fun _ _ h => h) (fun y x z hR h => h.keeps hR.block)
  · intro W hR hf0
    obtain ⟨P, g9, rfl, h1⟩ := (show NewU own1 w4.heap.size i ((x.r i).crash d) v24 W from hf0 _ (.head _) (by kernel_rfl) (.inl rfl))
    have Hh := zh h1
    clear hR hf0 h1
    go_simp
    exact RegT.OpOK_value ⟨⟨_, _, rfl, Hh.out⟩, Below.refl _ _⟩
  intro v34
  simp only [List.set_cons_succ, List.set_cons_zero, Nat.reduceAdd]
  apply RegT.T_const rfl rfl rfl (.int .i64 0) (fun _ _ h => h)
  · intro W hR hf0
    obtain ⟨P, g9, rfl, h1⟩ := (show NewU own1 w4.heap.size i ((x.r i).crash d) v24 W from hf0 _ (.tail _ (.head _)) (by kernel_rfl) (.inl rfl))
    clear hR hf0 h1
    go_simp
    exact RegT.OpOK_value ⟨rfl, Below.refl _ _⟩
  simp only [List.set_cons_succ, List.set_cons_zero, Nat.reduceAdd]
  iterate 2
   apply RegT.T_pure rfl rfl rfl
   · intro W hR; clear hR; go_simp; rfl
   simp only [List.set_cons_succ, List.set_cons_zero, Nat.reduceAdd]
  refine RegT.T_end rfl (fun w5 hS hf0 => ?_)
  obtain ⟨P, g9, rfl, hnew⟩ := (show NewPU own1 w4.heap.size i ((x.r i).crash d) v34 w5 from hf0 _ (.head _) (.inl rfl))
  have hB : Below w4.heap.size w4 w5 := (Below.refl w4.heap.size w4).drew.trans hS
  have m5 : Mv (fun l => l = i) own1 w4 (ext own1 w4.heap.size i) w5 := Mv.of_below hB i
  obtain ⟨rb2, ro2, rc2, hrb, hrlt, ha3, hpi⟩ := HD4.out.ptr hi
  have ha3' : w5.cell? ⟨a, 3, none⟩ = some (.slice (some ⟨rb2, ro2, none⟩) x.n rc2) := (World.cell?_of_block (a := ⟨a, 3, none⟩) (hB.block a HD4.out.lt)).trans ha3
  have hpi' : w5.cell? ⟨rb2, ro2 + i, none⟩ = some (.pointer (some ⟨p i, 0, none⟩)) := (World.cell?_of_block (a := ⟨rb2, ro2 + i, none⟩) (hB.block rb2 hrlt)).trans hpi
  have hfr : w5.frozen? ⟨rb2, ro2 + i, none⟩ = false := by
   have h1 := HD4.out.r
   have h2 : some (Value.slice v.rp v.rn v.rc) = some (.slice (some ⟨rb2, ro2, none⟩) x.n rc2) := (HD4.out.cell 3).symm.trans ha3
   injection h2 with h2
   rw [h2] at h1
   rcases h1 with ⟨e1, _⟩ | ⟨g', cap, cur, e1, hg, hh, _⟩
   · cases e1
   · injection e1 with e1 e2 e3
     injection e1 with e1
     injection e1 with e1 e4
     subst e1
     have h3 := (hB.block rb2 hrlt).trans hh
     simp [World.frozen?, h3]
  obtain ⟨hw6, m6⟩ := HD4.out.renew m5 hi hnew (show ((x.r i).crash d).n = (x.r i).n from rfl) hrb hrlt ha3
  have HD6 := zh hw6
  have HM6 := zh (HM4.out.trans (m6.mono (L' := fun l => l ≠ 9) fun l e => by omega))
  clear hS hf0 hnew hB m5 ha3 hpi hw6 m6 HD4 HM4 Hc Htm Hfr Htr Hnw hrb hrlt
  go_wp2
  go_ret
  exact ⟨rfl, _, _, _, _, HD6.out, HM6.out⟩
 · rfl
 · kernel_rfl
end
end Go.Proofs.Yteellfgiejnigaa
