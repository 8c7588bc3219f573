/- RaftSafe: G8, G9, G10, G11. -/
import Derived.Test.YteellfgiejnigaaQtA00
import Derived.Test.YteellfgiejnigaaQtA13
import Derived.Test.YteellfgiejnigaaQtA16
namespace Go.Proofs.Yteellfgiejnigaa
open Go.ChangeShapes Go.WideShapes Go.ChangeAt Go.RowKit
set_option linter.unusedVariables false
section
variable {ops : Array Oper} {rest : List Oper} {o : Oper} {a : Act} {w : World} {Q : Exit → Act → World → Prop} {P : Program}
theorem wpList_append_rog {α : Type} {R : Rep α} (hgd : o.guard = none) (s x : Operand) (t : TypeId) (ho : o.op = .call { callee := .builtin .append, args := #[s, x], argTypes := #[t, t] }) {S S' : Foot}
 {e : TypeId} {z : Value} {bytes : Nat} (he : Elem P t e z R.k bytes) {v : Value} {es : List α} (hs : a.eval s = v) (hown : RoG R w S e v es) {p : Option Addr} {c : Nat} {ys : List Value} {fs : List α} (hx : a.eval x = .slice p fs.length c) (hys : RoC R w (fun b => S' b ∧ v.ownBlock ≠ some b) ys fs)
 (hsrc : (p = none ∧ fs = [] ∧ c = 0) ∨ ∃ a, p = some a ∧ ∀ j u, ys[j]? = some u → w.cell? (a.add j) = some u)
 (h63 : es.length + fs.length ≤ maxLen) (hbytes : (es.length + fs.length) * bytes ≤ 140737488355328) (hS : ∀ b, S b → S' b) (hnew : S' w.heap.size)
 (h : ∀ p n c w', RoG R w' S' e (.slice p n c) (es ++ fs) → w.grownBy w' v.ownBlock → ((Value.slice p n c).ownBlock = v.ownBlock ∨ (Value.slice p n c).ownBlock = some w.heap.size) → n = es.length + fs.length → wpList P ops Q rest (a.put o.dst (.slice p n c)) w') : wpList P ops Q (o :: rest) a w := by
 refine wpList_plain hgd fun _ hK => ?_
 obtain ⟨v', w', hr, h2, h3, h4, _⟩ := run_append_rog (P := P) (ty := o.type) he hown hys hsrc h63 hbytes hS hnew
 obtain ⟨p2, c2, rfl⟩ := h2.form
 unfold Oper.wp execOp
 simp only [ho, resolve, invoke, builtin, Sem.run_bind, Sem.run_pure, Result.andThen_ok, List.map_toArray, List.map_cons, List.map_nil, hs, hx, hr]
 exact hK _ _ (h p2 _ c2 w' h2 h3 h4 List.length_append)
end
section
variable {own own' : Own} {w w' : World} {i p q g t0 : Nat} {who0 : Int} {r : RS.Rf} {x : Ov} {o : RS.Ou} {M : Nat}
theorem StAt.q0 (h : StAt own w i p q g t0 who0 r x o) : w.cell? ⟨q, 0, none⟩ = some (.pointer (some ⟨p, 0, none⟩)) := h.c 0
theorem StAt.q14 (h : StAt own w i p q g t0 who0 r x o) : w.cell? ⟨q, 14, none⟩ = some (.slice x.ap x.an x.ac) := h.c 14
theorem StAt.q16 (h : StAt own w i p q g t0 who0 r x o) : w.cell? ⟨q, 16, none⟩ = some (.slice x.np x.nn x.nc) := h.c 16
theorem NdAt.cn (h : NdAt own w i p g r) : w.cell? ⟨p, 0, none⟩ = some (.int .i64 (r.n : Int)) := h.c 0
theorem NdAt.cid (h : NdAt own w i p g r) : w.cell? ⟨p, 1, none⟩ = some (.int .i64 (r.id : Int)) := h.c 1
theorem NdAt.cT (h : NdAt own w i p g r) : w.cell? ⟨p, 2, none⟩ = some (.int .i64 (r.T : Int)) := h.c 2
theorem NdAt.cterm (h : NdAt own w i p g r) : w.cell? ⟨p, 3, none⟩ = some (.int .u64 (r.term : Int)) := h.c 3
theorem NdAt.cwho (h : NdAt own w i p g r) : w.cell? ⟨p, 4, none⟩ = some (.int .i64 r.who) := h.c 4
theorem NdAt.ctk (h : NdAt own w i p g r) : w.cell? ⟨p, 5, none⟩ = some (.pointer (some ⟨g, 0, none⟩)) := h.c 5
theorem NdAt.ccommit (h : NdAt own w i p g r) : w.cell? ⟨p, 6, none⟩ = some (.int .u64 (r.commit : Int)) := h.c 6
theorem NdAt.crole (h : NdAt own w i p g r) : w.cell? ⟨p, 7, none⟩ = some (.int .u8 (r.role : Int)) := h.c 7
theorem NdAt.cleader (h : NdAt own w i p g r) : w.cell? ⟨p, 8, none⟩ = some (.int .i64 r.leader) := h.c 8
theorem NdAt.cleft (h : NdAt own w i p g r) : w.cell? ⟨p, 9, none⟩ = some (.int .i64 r.left) := h.c 9
theorem NdAt.cquiet (h : NdAt own w i p g r) : w.cell? ⟨p, 10, none⟩ = some (.int .i64 r.quiet) := h.c 10
theorem NdAt.cbeat (h : NdAt own w i p g r) : w.cell? ⟨p, 11, none⟩ = some (.int .i64 r.beat) := h.c 11
theorem NdAt.cround (h : NdAt own w i p g r) : w.cell? ⟨p, 12, none⟩ = some (.int .u64 (r.round : Int)) := h.c 12
theorem NdAt.cnext (h : NdAt own w i p g r) {f : Nat} (hf : f < 7) : w.cell? ⟨p, 20 + f * 2, none⟩ = some (.int .u64 (r.next f : Int)) := (h.c _).trans (rfc_next r g hf)
theorem NdAt.cmt (h : NdAt own w i p g r) {f : Nat} (hf : f < 7) : w.cell? ⟨p, 20 + f * 2 + 1, none⟩ = some (.int .u64 (r.mt f : Int)) := (h.c _).trans (rfc_mt r g hf)
theorem NdAt.cside (h : NdAt own w i p g r) {f : Nat} (hf : f < 7) : w.cell? ⟨p, 13 + f, none⟩ = some (.bool (r.sides f)) := (h.c _).trans (rfc_side r g hf)
theorem StAt.below (h : StAt own w i p q g t0 who0 r x o) (hB : Below w.heap.size w w') : StAt (ext own w.heap.size 9) w' i p q g t0 who0 r x o := h.mv (L := fun _ => False) (Mv.of_below hB 9) id id
theorem NdAt.below (h : NdAt own w i p g r) (hB : Below w.heap.size w w') : NdAt (ext own w.heap.size 9) w' i p g r := h.mv (L := fun _ => False) (Mv.of_below hB 9) id
theorem StAt.grown (h : StAt own w i p q g t0 who0 r x o) {u : Option Nat} (hg : w.grownBy w' u) (hu : ∀ b, u = some b → own b = 7 ∧ b ≠ q) :
 NdAt (ext own w.heap.size 7) w' i p g r ∧ w'.heap[q]? = some (.cells (stc p x t0 who0) 176) ∧ ext own w.heap.size 7 q = 7 ∧ Mv (fun l => l = 7) own w (ext own w.heap.size 7) w' := by
 have hm : Mv (fun l => l = 7) own w (ext own w.heap.size 7) w' := Mv.of_touch (Touch.of_grownBy (S := fun b => u = some b) hg fun b e => e) (fun b _ e => (hu b e).1) 7
 have hi := h.nd.hi
 exact ⟨h.nd.mv hm (by omega), ((Touch.of_grownBy (S := fun b => u = some b) hg fun b e => e).block q h.lt fun e => (hu q e).2 rfl).trans h.rq, (ext_lt h.lt).trans h.oq, hm⟩
theorem StAt.needPush (h : StAt own w i p q g t0 who0 r x o) {f : Nat} {pn : Option Addr} {n c : Nat} (hro : RoG intR w' (Ft (ext own w.heap.size 7) 7 q) 3 (.slice pn n c) (o.need ++ [f])) (hg : w.grownBy w' (Value.slice x.np x.nn x.nc).ownBlock)
 (hnew : (Value.slice pn n c).ownBlock = (Value.slice x.np x.nn x.nc).ownBlock ∨ (Value.slice pn n c).ownBlock = some w.heap.size) :
 StAt (ext own w.heap.size 7) (w'.setCell ⟨q, 16, none⟩ (.slice pn n c)) i p q g t0 who0 r { x with np := pn, nn := n, nc := c } { o with need := o.need ++ [f] } ∧ Mv (fun l => l = 7) own w (ext own w.heap.size 7) (w'.setCell ⟨q, 16, none⟩ (.slice pn n c)) := by
 have hfoot : ∀ b, (Value.slice x.np x.nn x.nc).ownBlock = some b → own b = 7 ∧ b ≠ q := fun b e => (h.ov.ne.foot b e).1
 obtain ⟨h1, h2, h3, h4⟩ := h.grown hg hfoot
 have hse : RoG sentR w' (OffS (Ft (ext own w.heap.size 7) 7 q) (.slice pn n c)) 164 (.slice x.sp x.sn x.sc) o.send := by
  refine (footed_rog sentR 164 _ _).move h.ov.se fun b hb e => ⟨⟨⟨(ext_lt hb).trans e.1.1, e.1.2⟩, fun e2 => ?_⟩, (Touch.of_grownBy (S := fun b => (Value.slice x.np x.nn x.nc).ownBlock = some b) hg fun b e => e).block b hb e.2⟩
  rcases hnew with h5 | h5
  · rw [h5] at e2; exact e.2 e2
  · rw [h5] at e2; cases e2; exact Nat.lt_irrefl _ hb
 refine ⟨?_, h4.trans (Mv.set (L := fun l => l = 7) (own := ext own w.heap.size 7) (a := ⟨q, 16, none⟩) h3 _)⟩
 have hi := h.nd.hi
 have hpq := h.ne
 refine ⟨h1.mv (L := fun l => l = 7) (Mv.set (a := ⟨q, 16, none⟩) h3 _) (by omega), ?_, h3, ?_⟩
 · rw [heap_setCell_same h2]; rfl
 · exact (footed_ov _ _).frame (w := w') ⟨h.ov.an, hse, hro⟩ fun b hb => Below.heap_setCell _ _ _ _ hb.2
theorem termAt_rs (B T : Nat) (es : List Ent) (k : Nat) : RS.termAt B T es k = termAt B T es k := rfl
theorem tipT_rs (T : Nat) (es : List Ent) : RS.tipT T es = tipT T es := by
 unfold RS.tipT tipT
 cases es.getLast? <;> rfl
theorem sliceR_rs (B : Nat) (es : List Ent) (fr : Nat) : sliceR B es fr 16 = RS.sliceR B es fr 16 := by
 unfold sliceR RS.sliceR
 simp
end
section
variable {own own' : Own} {w w' : World} {i p q g t0 : Nat} {who0 : Int} {r : RS.Rf} {x : Ov} {o : RS.Ou} {M : Nat}
def Adds (x x' : Ov) : Prop := x'.ap = x.ap ∧ x'.an = x.an ∧ x'.ac = x.ac
theorem Adds.refl (x : Ov) : Adds x x := ⟨rfl, rfl, rfl⟩
theorem Adds.trans {x y z : Ov} (h : Adds x y) (k : Adds y z) : Adds x z := ⟨k.1.trans h.1, k.2.1.trans h.2.1, k.2.2.trans h.2.2⟩
def Stp (own : Own) (w : World) (L : Nat → Prop) (i p q g t0 : Nat) (who0 : Int) (r : RS.Rf) (x : Ov) (o : RS.Ou) (w' : World) : Prop :=
 ∃ own' x', StAt own' w' i p q g t0 who0 r x' o ∧ Adds x x' ∧ Mv L own w own' w'
theorem row_frozen {w : World} {g : Nat} (j : Nat) {cs : Array Value} {t : TypeId} (h : w.heap[g]? = some (.cells cs t)) : w.frozen? ⟨g, j, none⟩ = false := by simp [World.frozen?, h]
set_option maxRecDepth 100000 in
set_option maxHeartbeats 1000000 in
theorem update_need_w (own : Own) (i p q g t0 : Nat) (who0 : Int) (r : RS.Rf) (x : Ov) (o : RS.Ou) (w : World) (h : StAt own w i p q g t0 who0 r x o) (M : Nat) (hb : Nb M r) (f : Nat) (hf : f < 7) (hnx : r.next f ≤ r.base) (hs : o.need.length ≤ 1000) :
 Calls Try.prog 130 #[.pointer (some ⟨q, 0, none⟩), .int .i64 (f : Int)] w fun e w' => (∃ v, e = .returned v) ∧ Stp own w (fun l => l = 7) i p q g t0 who0 r x (r.update o f) w' := by
 obtain ⟨v, htk⟩ := h.nd.tk
 have Hbase := zh (base_w _ g r.base r.bt v r.es w htk)
 have H := zh h
 have hq0 := h.q0
 have hp5 := h.nd.ctk
 have hne := h.ne
 have Hup := zh (show r.update o f = { o with need := o.need ++ [f] } from if_pos hnx)
 have hf0 : (0 : Int) ≤ (f : Int) := by omega
 have hf7 : (f : Int) < 7 := by omega
 have e1 : decide ((r.next f : Int) ≤ (r.base : Int)) = true := by simp; omega
 have e2 : decide (r.next f ≤ r.base) = true := by simp; omega
 clear h htk hb hnx
 go_enter Try.func130, Try.ntmps130
 go_upto_region 1 with (go_at_call 42; refine (Hbase.out).mono ?_; rintro e w1 ⟨rfl, hB⟩; have H1 := zh (H.out.below hB); have HM1 := zh (Mv.of_below (L := fun l => l = 7) (own := own) hB 9); clear hB hq0 hp5; have hq0 := H1.out.q0; have hnx := H1.out.nd.cnext hf; have hq16 := H1.out.q16; have hfz := H1.out.frozen 16)
 generalize ext own w.heap.size 9 = own1 at *
 have hA := H1.out.mv (L := fun _ => False) (Mv.alloc own1 w1 (.cells #[.int .i64 (f : Int)] 3) 9) id id
 have HMA := zh (HM1.out.trans ((Mv.alloc own1 w1 (.cells #[.int .i64 (f : Int)] 3) 9).weak (L' := fun l => l = 7)))
 have HN := zh (heap_alloc_new w1 (.cells #[.int .i64 (f : Int)] 3))
 generalize ext own1 w1.heap.size 9 = ownA at *
 have HA := zh hA
 have HR := zh (hA.ov.ne.mono (S' := fun b => Ft ownA 7 q b ∧ b < (w1.alloc (.cells #[.int .i64 (f : Int)] 3)).heap.size) fun b hb e => ⟨e, hb⟩)
 have hnn : x.nn = o.need.length := by obtain ⟨_, _, e⟩ := hA.ov.ne.form; injection e
 have HS := zh (fun b (h : Ft ownA 7 q b ∧ b < (w1.alloc (.cells #[.int .i64 (f : Int)] 3)).heap.size) => (⟨(ext_lt h.2).trans h.1.1, h.1.2⟩ : Ft (ext ownA (w1.alloc (.cells #[.int .i64 (f : Int)] 3)).heap.size 7) 7 q b))
 have HSn := zh (show Ft (ext ownA (w1.alloc (.cells #[.int .i64 (f : Int)] 3)).heap.size 7) 7 q (w1.alloc (.cells #[.int .i64 (f : Int)] 3)).heap.size from ⟨ext_ge (Nat.le_refl _), fun e => by have := hA.lt; omega⟩)
 have HC := zh (fun (j : Nat) (u : Value) (hu : [Value.int .i64 (f : Int)][j]? = some u) => row_cells (cs := [.int .i64 (f : Int)]) HN.out j u hu)
 have HFt := zh (fun b (e : (Value.slice x.np x.nn x.nc).ownBlock = some b) => (hA.ov.ne.foot b e).1)
 have Hnn := zh hnn
 have HL1 := zh (show o.need.length + [f].length ≤ maxLen by unfold maxLen; simp; omega)
 have HL2 := zh (show (o.need.length + [f].length) * 8 ≤ 140737488355328 by simp; omega)
 clear hA hnn
 go_wp2_with (at_builtin; go_loud (refine wpList_append_rog (R := intR) rfl (.tmp 38) (.tmp 40) 98 rfl (S' := Ft (ext ownA (w1.alloc (.cells #[.int .i64 (f : Int)] 3)).heap.size 7) 7 q) helI rfl HR.out rfl (fs := [f]) (RoC.cons rfl .nil) (.inr ⟨_, rfl, HC.out⟩) HL1.out HL2.out HS.out HSn.out ?_; intro pn n c w3 ho hg hnew hn; have HP := zh (HA.out.needPush ho hg hnew); have hrow := (HA.out.grown hg HFt.out).2.1; have hq16' : w3.cell? ⟨q, 16, none⟩ = some (.slice x.np x.nn x.nc) := cell_of_row _ _ 16 _ _ _ hrow; have hfz' := row_frozen 16 hrow; clear ho hg hnew hrow hn))
 refine bodyPost_ret (results_none rfl _ _ _) rfl ?_
 refine ⟨⟨_, rfl⟩, _, { x with np := pn, nn := n, nc := c }, ?_, ⟨rfl, rfl, rfl⟩, HMA.out.trans HP.out.2⟩
 rw [Hup.out]; exact HP.out.1
def NoteU (k rd ix at' cm : Int) (B0 : Nat) (l : List Ent) (y : Value) (W : World) : Prop := ∃ p c, y = .agg #[.int .u8 k, .int .u64 0, .int .u64 rd, .int .u64 ix, .int .u64 at', .int .u64 cm, .bool false, .slice p l.length c, .slice none 0 0] ∧ EsG W (fun b => B0 ≤ b) 53 (.slice p l.length c) l
theorem NoteU.keeps {k rd ix at' cm : Int} {B0 : Nat} {l : List Ent} {y : Value} {W W' : World} (h : NoteU k rd ix at' cm B0 l y W) (hk : Keeps W W') : NoteU k rd ix at' cm B0 l y W' := by
 obtain ⟨p, c, e, hu⟩ := h; exact ⟨p, c, e, hu.keeps hk⟩
theorem nilPtB {w : World} : PtB w none 0 [] := ⟨fun _ => rfl, Nat.le_refl _, by decide, fun h => absurd rfl h⟩
set_option maxRecDepth 100000 in
set_option maxHeartbeats 1000000 in
theorem update_send_w (own : Own) (i p q g t0 : Nat) (who0 : Int) (r : RS.Rf) (x : Ov) (o : RS.Ou) (w : World) (h : StAt own w i p q g t0 who0 r x o) (M : Nat) (hb : Nb M r) (f : Nat) (hf : f < 7) (hnx : ¬ r.next f ≤ r.base) (hs : o.send.length ≤ 100000) :
 Calls Try.prog 130 #[.pointer (some ⟨q, 0, none⟩), .int .i64 (f : Int)] w fun e w' => (∃ v, e = .returned v) ∧ Stp own w (fun l => l = 7) i p q g t0 who0 r x (r.update o f) w' := by
 obtain ⟨v, htk⟩ := h.nd.tk
 have Hbase := zh (base_w _ g r.base r.bt v r.es w htk)
 have H := zh h
 have hq0 := h.q0
 have hp5 := h.nd.ctk
 have hne := h.ne
 have Hup := zh (show r.update o f = r.put o f (r.addN f) from if_neg hnx)
 have hf0 : (0 : Int) ≤ (f : Int) := by omega
 have hf7 : (f : Int) < 7 := by omega
 have e1 : decide ((r.next f : Int) ≤ (r.base : Int)) = false := by simp; omega
 have e2 : decide (r.next f ≤ r.base) = false := by simp; omega
 have hnM := hb.next f
 have hMM := hb.hM
 obtain ⟨k, hk⟩ : ∃ k, k = r.next f - 1 := ⟨_, rfl⟩
 have e3 : IntKind.u64.wrap ((r.next f : Int) - 1) = (k : Int) := by rw [IntWalk.u64_in _ (by omega)]; omega
 have Hk := zh hk
 have Hkb := zh (show k < 2 ^ 64 by omega)
 have Hnb := zh (show r.next f < 2 ^ 64 by omega)
 have Hlen := zh (show r.es.length ≤ 1000000 by have := hb.len; omega)
 have Hel := zh (fun e he => (show e.2.length ≤ 1000000 by have := (hb.es e he).2; omega) : ∀ e ∈ r.es, e.2.length ≤ 1000000)
 have Hlist := zh (sliceR_rs r.base r.es (r.next f))
 clear h htk hb hnx hnM hMM hk
 go_enter Try.func130, Try.ntmps130
 go_upto_region 1 with (go_at_call 42; refine (Hbase.out).mono ?_; rintro e w1 ⟨rfl, hB⟩; have H1 := zh (H.out.below hB); have HM1 := zh (Mv.of_below (L := fun l => l = 7) (own := own) hB 9); clear hB hq0 hp5; have hq0 := H1.out.q0; have hnx := H1.out.nd.cnext hf; have hp5 := H1.out.nd.ctk; have Htm := zh (H1.out.nd.tk.elim fun v htk => termat_w _ g r.base r.bt v r.es k w1 htk Hlen.out Hkb.out))
 generalize ext own w.heap.size 9 = own1 at *
 generalize hta : termAt r.base r.bt r.es k = ta at *
 have Hta := zh hta
 clear hta
 obtain ⟨ta1, ta2⟩ := ta
 go_upto_region 5 with (go_at_call 28; refine (Htm.out).mono ?_; rintro e w3 ⟨rfl, hB⟩; have H3 := zh (H1.out.below hB); have HM3 := zh (HM1.out.trans (Mv.of_below (L := fun l => l = 7) (own := own1) hB 9)); clear hB hq0 hp5 hnx; have hq0 := H3.out.q0; have hp5 := H3.out.nd.ctk; have hp6 := H3.out.nd.ccommit; have Hsl := zh (H3.out.nd.tk.elim fun v htk => fun (W : World) (hR : RegT.Grow w3.drew W) => slice_w _ g r.base r.bt (r.next f) 16 v r.es W ((htk.keeps (Keeps.refl w3).drew).keeps hR.block) Hlen.out Hel.out Hnb.out (by decide)))
 generalize ext own1 w1.heap.size 9 = own3 at *
 apply RegT.wp_region_T rfl 81 22 rfl (by kernel_rfl) RegT.Grow RegT.Grow.refl RegT.Grow.trans
 ·
  iterate 3
   apply RegT.T_pure rfl rfl rfl
   · intro W hR; clear hR; go_simp; rfl
   simp only [List.set_cons_succ, List.set_cons_zero, Nat.reduceAdd]
  apply RegT.T_pure (v := .int .u64 (k : Int)) rfl rfl rfl
  · intro W hR
    clear hR
    go_simp
  simp only [List.set_cons_succ, List.set_cons_zero, Nat.reduceAdd]
  iterate 16
   apply RegT.T_pure rfl rfl rfl
   · intro W hR; have h0 := Keeps.cell hR.block hq0; have h1 := Keeps.cell hR.block hp6; have h2 := Keeps.cell hR.block hp5; clear hR; go_simp; rfl
   simp only [List.set_cons_succ, List.set_cons_zero, Nat.reduceAdd]
  apply RegT.T_pred rfl rfl rfl (fun u W => EsG W (fun b => w3.heap.size ≤ b) 53 u (sliceR r.base r.es (r.next f) 16)) (fun _ _ h => h) (fun y x z hR h => h.keeps hR.block)
  · intro W hR hf0
    have Hc := zh (Hsl.out W hR)
    have hsz := zh hR.size
    clear hR hf0
    go_simp
    exact RegT.OpOK_enter Hc.out (fun e w' ⟨u, he, hu, hB⟩ => ⟨_, he, hu.mono fun b _ hb => Nat.le_trans hsz.out hb, hB⟩)
  intro u8
  simp only [List.set_cons_succ, List.set_cons_zero, Nat.reduceAdd]
  apply RegT.T_pred rfl rfl rfl (NoteU 5 0 (k : Int) (ta1 : Int) (r.commit : Int) w3.heap.size (sliceR r.base r.es (r.next f) 16)) (fun _ _ h => h) (fun y x z hR h => h.keeps hR.block)
  · intro W hR hf0
    have hu : EsG W (fun b => w3.heap.size ≤ b) 53 u8 (sliceR r.base r.es (r.next f) 16) := hf0 _ (.head _) (by kernel_rfl) (.inl rfl)
    obtain ⟨p8, c8, rfl⟩ := hu.form
    have Hu := zh hu
    clear hR hf0 hu
    go_simp
    exact RegT.OpOK_value ⟨⟨_, _, rfl, Hu.out⟩, Below.refl _ _⟩
  intro u9
  simp only [List.set_cons_succ, List.set_cons_zero, Nat.reduceAdd]
  refine RegT.T_tail (fun W hR hf0 => ?_)
  obtain ⟨p8, c8, rfl, hu⟩ := (show NoteU 5 0 (k : Int) (ta1 : Int) (r.commit : Int) w3.heap.size (sliceR r.base r.es (r.next f) 16) u9 W from hf0 _ (.head _) (.inl rfl))
  generalize hl8 : (sliceR r.base r.es (r.next f) 16).length = n8 at *
  have hm3 : Mv (fun l => l = 7) own3 w3 (ext own3 w3.drew.heap.size 7) W := (Mv.drew _ own3 w3).trans (Mv.of_below hR 7)
  have h3 : StAt (ext own3 w3.drew.heap.size 7) W i p q g t0 who0 r x o := (H3.out.drew).mv (L := fun _ => False) (Mv.of_below hR 7) id id
  have hofs := H3.out.ov
  have hlq := H3.out.lt
  have hl : EsR W (OffS (OffS (Ft (ext own3 w3.drew.heap.size 7) 7 q) (.slice x.np x.nn x.nc)) (.slice x.sp x.sn x.sc)) (.slice p8 n8 c8) (r.addN f).list := by
   show EsR W _ _ (RS.sliceR r.base r.es (r.next f) 16)
   rw [← Hlist.out]
   refine hu.rd.mono fun b _ hb => ⟨⟨⟨ext_ge hb, fun e => ?_⟩, fun e => ?_⟩, fun e => ?_⟩
   · have hb : w3.heap.size ≤ b := hb; omega
   · have hb : w3.heap.size ≤ b := hb; have := (hofs.ne.foot b e).2; omega
   · have hb : w3.heap.size ≤ b := hb; have := (hofs.se.foot b e).2; omega
  have Hsend := zh (send_w (ext own3 w3.drew.heap.size 7) i p q g t0 who0 r x o W h3 f (r.addN f) 5 0 0 (k : Int) (ta1 : Int) (r.commit : Int) false p8 n8 c8 none 0 0 rfl rfl (by rw [Hk.out]; rfl) (by show _ = ((RS.termAt r.base r.bt r.es (r.next f - 1)).1 : Int); rw [← Hk.out, termAt_rs, Hta.out]) rfl rfl hl (datA_nil _ _ _ _ nilPtB) hs)
  have HM4 := zh (HM3.out.trans hm3)
  clear hR hf0 hu hm3 h3 hl hl8 hofs
  simp only [List.drop_succ_cons, List.drop_zero]
  go_wp2_with (go_at_call 120; refine (Hsend.out).mono ?_; rintro e w5 ⟨⟨v, rfl⟩, own5, x5, h5, a1, a2, a3, hm5⟩; have H5 := zh h5; have HM5 := zh hm5; have HA5 := zh (And.intro a1 (And.intro a2 a3)); clear h5 hm5 a1 a2 a3)
  go_end0
  refine ⟨⟨_, rfl⟩, own5, x5, ?_, HA5.out, HM4.out.trans HM5.out⟩
  rw [Hup.out]; exact H5.out
 · rfl
 · kernel_rfl
end
theorem Mv.put {own : Own} {w : World} {l : Nat} {L : Nat → Prop} (h : L (own l)) (o' : Obj) : Mv L own w own (w.putObj l o') :=
 ⟨⟨rfl, rfl, rfl, by simp [World.putObj], fun b hb hn => World.putObj_heap_other (fun e => hn (by first | (rw [e]; exact h) | (rw [← e]; exact h)))⟩, fun _ _ => rfl⟩
def bodyOn (Φ : Nat → Own → World → Prop) (k : Nat) (own : Own) (W : World) : Exit → Act → World → Prop
 | .normal, _, W' => ∃ own', Φ (k + 1) own' W' ∧ Mv (fun l => l ≠ 9) own W own' W'
 | .exit id, _, _ => False
 | .ret, _, _ => False
 | .goto _, _, _ => False
 | .panic _, _, _ => False
 | .outgrown, _, _ => False
theorem others_loop {Q : Exit → Act → World → Prop} {a : Act} {wB : World} {ownB : Own} {N p n id : Nat} (hn : n ≤ 7) (hO : OtAt wB N p n id) (h9 : ownB N = 9) (hN : N < wB.heap.size) (hp : p < wB.heap.size)
 {ps : Array Tmp} {assign body : Code} {g : Operand} (hg : a.eval g = .func (.func 132) #[] #[.pointer (some ⟨N, 0, none⟩)]) (hps : ps.size = 1)
 (Φ : Nat → Own → World → Prop) (hΦp : ∀ k own A l o', Φ k own A → own l = 9 → wB.heap.size ≤ l → Φ k own (A.putObj l o'))
 (hΦo : ∀ k own A, Φ k own A → A.cell? ⟨p, 0, none⟩ = some (.int .i64 (n : Int)) ∧ A.cell? ⟨p, 1, none⟩ = some (.int .i64 (id : Int)))
 (h0 : ∀ W, Below wB.heap.size wB W → Φ 0 (ext ownB wB.heap.size 9) W) (a₁ : Nat → Act)
 (hassign : ∀ (l k : Nat) (W : World) (K : Act → World → Prop), K (a₁ k) W →
   assign.wpIn (Fence.wide.inRound l) 0 Try.prog (Exit.then K (fun _ _ _ => False)) { tmps := (ps.zip #[.int .i64 ((otAt id n k : Nat) : Int)]).foldl (fun t (p, v) => t.setIfInBounds p v) a.tmps, defers := [] } W)
 (hbody : ∀ (l k : Nat) (own : Own) (W : World), Φ k own W → k < (otTo id n).length → Mv (fun l => l ≠ 9) ownB wB own W → body.wpIn (Fence.wide.inRound l) 0 Try.prog (bodyOn Φ k own W) (a₁ k) W)
 (hdone : ∀ (W : World) (own : Own), Φ (otTo id n).length own W → Mv (fun l => l ≠ 9) ownB wB own W → own wB.heap.size = 9 → W.heap[wB.heap.size]? = some (.deferred (some [])) → Q .normal { a with defers := { target := .collected wB.heap.size, args := #[] } :: a.defers } W) :
 (Code.rangeFunc g ps assign body).wpIn Fence.wide 0 Try.prog Q a wB := by
 refine range_law0 (gf := 132) (lb := #[.pointer (some ⟨N, 0, none⟩)]) hg (enters_of Try.func132 (by kernel_rfl) rfl) (others_iter wB N p n id hn hO hN hp) (fun k => hps.symm) (fun h k => h.trans k)
  (fun W l o' hl => KpOt.of_same (World.putObj_heap_other (by omega)) (World.putObj_heap_other (by omega)))
  (fun k W => ∃ own, Φ k own W ∧ own wB.heap.size = 9 ∧ own (wB.heap.size + 1) = 9 ∧ wB.heap.size + 1 < W.heap.size ∧ Mv (fun l => l ≠ 9) ownB wB own W) ?_ ?_ a₁ hassign ?_ ?_
 · rintro k A l o' hl ⟨own, h1, h2, h3, h4, h5⟩
   have hl9 : own l = 9 := by rcases hl with rfl | rfl <;> assumption
   refine ⟨own, hΦp k own A l o' h1 hl9 (by omega), h2, h3, by simpa [World.putObj] using h4, ⟨⟨h5.t.os, h5.t.tape, h5.t.output, by simpa [World.putObj] using h5.t.size, fun b hb hn => ?_⟩, h5.lab⟩⟩
   rw [World.putObj_heap_other (by omega)]; exact h5.t.block b hb hn
 · intro W hB hs
   exact ⟨_, h0 W hB, ext_ge (Nat.le_refl _), ext_ge (by omega), by omega, Mv.of_below hB 9⟩
 · rintro l k W ⟨own, h1, h2, h3, h4, h5⟩ hk hs
   refine wpIn_mono (hbody l k own W h1 hk h5) ?_
   intro e a3 W3 hp3
   cases e with
   | normal =>
    obtain ⟨own', q1, q2⟩ := hp3
    have hB : wB.heap.size < W.heap.size := by omega
    have hNW : N < W.heap.size := Nat.lt_of_lt_of_le hN h5.t.size
    obtain ⟨c1, c2⟩ := hΦo _ _ _ h1
    obtain ⟨d1, d2⟩ := hΦo _ _ _ q1
    have hN9 : own N = 9 := (h5.lab N hN).trans h9
    refine ⟨⟨q2.same hB (fun e => e h2), q2.same h4 (fun e => e h3)⟩, ⟨World.cell?_of_block (a := ⟨N, 0, none⟩) (q2.same hNW (fun e => e hN9)), d1.trans c1.symm, d2.trans c2.symm⟩, own', q1, (q2.lab _ hB).trans h2, (q2.lab _ h4).trans h3, Nat.lt_of_lt_of_le h4 q2.t.size, h5.trans q2⟩
   | exit id => exact hp3.elim
   | ret => exact hp3.elim
   | goto t => exact hp3.elim
   | panic ch => exact hp3.elim
   | outgrown => exact hp3.elim
 · rintro W ⟨own, h1, h2, h3, h4, h5⟩ hD
   exact hdone W own h1 h5 h2 hD
attribute [local go_sem] Oper.semAt_some
section
variable {own own' : Own} {w w' : World} {i p q g t0 : Nat} {who0 : Int} {r : RS.Rf} {x : Ov} {o : RS.Ou} {M : Nat}
theorem update_w (own : Own) (i p q g t0 : Nat) (who0 : Int) (r : RS.Rf) (x : Ov) (o : RS.Ou) (w : World) (h : StAt own w i p q g t0 who0 r x o) (M : Nat) (hb : Nb M r) (f : Nat) (hf : f < 7) (hs : o.send.length ≤ 1000) (hn : o.need.length ≤ 1000) :
 Calls Try.prog 130 #[.pointer (some ⟨q, 0, none⟩), .int .i64 (f : Int)] w fun e w' => (∃ v, e = .returned v) ∧ Stp own w (fun l => l = 7) i p q g t0 who0 r x (r.update o f) w' := by
 by_cases hnx : r.next f ≤ r.base
 · exact update_need_w own i p q g t0 who0 r x o w h M hb f hf hnx hn
 · exact update_send_w own i p q g t0 who0 r x o w h M hb f hf hnx (by omega)
theorem otTo_mem {id n k : Nat} (hk : k < (otTo id n).length) : otAt id n k < n := by
 unfold otAt
 rw [List.getD_eq_getElem?_getD, List.getElem?_eq_getElem hk]
 have : (otTo id n)[k] ∈ otTo id n := List.getElem_mem hk
 have := (List.mem_filter.1 this).1
 simpa using this
theorem otTo_len (id n : Nat) : (otTo id n).length ≤ n := by
 have := List.length_filter_le (fun i => decide (i ≠ id)) (List.range n)
 rwa [List.length_range] at this
def fo (r : RS.Rf) (f : RS.Ou → Nat → RS.Ou) (o : RS.Ou) (k : Nat) : RS.Ou := ((otTo r.id r.n).take k).foldl f o
theorem fo_succ (r : RS.Rf) (f : RS.Ou → Nat → RS.Ou) (o : RS.Ou) {k : Nat} (hk : k < (otTo r.id r.n).length) : fo r f o (k + 1) = f (fo r f o k) (otAt r.id r.n k) := by
 unfold fo
 rw [List.take_succ_eq_append_getElem hk, List.foldl_append, otAt, List.getD_eq_getElem?_getD, List.getElem?_eq_getElem hk]
 rfl
theorem fo_all (r : RS.Rf) (f : RS.Ou → Nat → RS.Ou) (o : RS.Ou) : fo r f o (otTo r.id r.n).length = r.others.foldl f o := by
 unfold fo
 rw [List.take_length]
 rfl
theorem fo_len (r : RS.Rf) (f : RS.Ou → Nat → RS.Ou) (o : RS.Ou) (hf : ∀ o j, (f o j).send.length ≤ o.send.length + 1 ∧ (f o j).need.length ≤ o.need.length + 1) : ∀ k, k ≤ (otTo r.id r.n).length → (fo r f o k).send.length ≤ o.send.length + k ∧ (fo r f o k).need.length ≤ o.need.length + k := by
 intro k
 induction k with
 | zero => intro _; exact ⟨by simp [fo], by simp [fo]⟩
 | succ k ih =>
  intro hk
  have h := ih (by omega)
  rw [fo_succ r f o (by omega)]
  have := hf (fo r f o k) (otAt r.id r.n k)
  omega
theorem put_len (r : RS.Rf) (o : RS.Ou) (j : Nat) (x : RS.Nt) : (r.put o j x).send.length ≤ o.send.length + 1 ∧ (r.put o j x).need.length ≤ o.need.length + 1 := by
 unfold RS.Rf.put
 simp
theorem update_len (r : RS.Rf) (o : RS.Ou) (j : Nat) : (r.update o j).send.length ≤ o.send.length + 1 ∧ (r.update o j).need.length ≤ o.need.length + 1 := by
 unfold RS.Rf.update
 split
 · simp
 · exact put_len _ _ _ _
theorem StAt.put (h : StAt own w i p q g t0 who0 r x o) {l : Nat} (hl : own l = 9) (o' : Obj) : StAt own (w.putObj l o') i p q g t0 who0 r x o := h.mv (L := fun l => l = 9) (Mv.put (L := fun l => l = 9) hl o') (by have := h.nd.hi; omega) (by decide)
theorem Mv.putNew {L : Nat → Prop} (h : Mv L own w own' w') {l : Nat} (hl : w.heap.size ≤ l) (o' : Obj) : Mv L own w own' (w'.putObj l o') :=
 ⟨⟨h.t.os, h.t.tape, h.t.output, by simpa [World.putObj] using h.t.size, fun b hb hn => (World.putObj_heap_other (by omega)).trans (h.t.block b hb hn)⟩, h.lab⟩
set_option maxRecDepth 100000 in
set_option maxHeartbeats 1000000 in
theorem updates_w (own : Own) (i p q g t0 : Nat) (who0 : Int) (r : RS.Rf) (x : Ov) (o : RS.Ou) (w : World) (h : StAt own w i p q g t0 who0 r x o) (M : Nat) (hb : Nb M r) (hs : o.send.length ≤ 900) (hn : o.need.length ≤ 900) :
 Calls Try.prog 110 #[.pointer (some ⟨q, 0, none⟩)] w fun e w' => (∃ v, e = .returned v) ∧ Stp own w (fun l => l = 7) i p q g t0 who0 r x (r.updates o) w' := by
 have hm0 := Mv.alloc own w (.cells #[.pointer (some ⟨q, 0, none⟩)] 159) 9
 have H1 := zh (h.mv hm0 id id)
 have HM1 := zh (hm0.weak (L := fun l => l = 7) (L' := fun l => l = 7))
 have HN1 := zh (heap_alloc_new w (.cells #[.pointer (some ⟨q, 0, none⟩)] 159))
 have H91 := zh (ext_ge (own := own) (n := w.heap.size) (l := 9) (Nat.le_refl _))
 have Hb := zh hb
 have Hn7 := zh hb.n7
 obtain ⟨w1, hw1⟩ : ∃ w1, w.alloc (.cells #[.pointer (some ⟨q, 0, none⟩)] 159) = w1 := ⟨_, rfl⟩
 rw [hw1] at H1 HM1 HN1
 have HW := zh hw1
 clear h hm0 hw1 hb
 generalize ext own w.heap.size 9 = own1 at *
 have hb0 : w1.cell? ⟨w.heap.size, 0, none⟩ = some (.pointer (some ⟨q, 0, none⟩)) := one_cell HN1.out
 have hq0 := H1.out.q0
 refine (callsIn_wide (n := 0)).1 (callsIn_of_wp_marks Try.func110 rfl trivial ?_ rfl)
 refine wpIn_wide.2 ?_
 simp only [Try.ntmps110, List.size_toArray, List.length_cons, List.length_nil, Nat.reduceAdd, Nat.reduceSub, Array.replicate_succ, Array.replicate_zero, List.push_toArray, List.append_toArray, List.nil_append, List.cons_append]
 generalize hQ : bodyPostM Fence.wide 0 Try.prog _ _ = Q
 have HQ := zh hQ
 clear hQ
 go_upto_region 1 with (fail)
 rw [HW.out]
 go_wp2_with (go_at_call 129; refine (others_w p w1).mono ?_; rintro e w2 ⟨rfl, hw2⟩; have HW2 := zh hw2; clear hw2)
 have hm2 : Mv (fun _ => False) own1 w1 (ext own1 w1.heap.size 9) w2 := by rw [HW2.out]; exact Mv.alloc own1 w1 _ 9
 have hN2 : w2.heap[w1.heap.size]? = some (.cells #[.pointer (some ⟨p, 0, none⟩)] 86) := by rw [HW2.out]; exact heap_alloc_new w1 _
 have hs2 : w2.heap.size = w1.heap.size + 1 := by rw [HW2.out]; simp
 have H2 := zh (H1.out.mv hm2 id id)
 have HM2 := zh (HM1.out.trans (hm2.weak (L := fun l => l = 7) (L' := fun l => l = 7)))
 have h92 : ext own1 w1.heap.size 9 w1.heap.size = 9 := ext_ge (Nat.le_refl _)
 have hNlt := (Array.getElem?_eq_some_iff.1 HN1.out).1
 have h91 : ext own1 w1.heap.size 9 w.heap.size = 9 := (ext_lt hNlt).trans H91.out
 have hb2 : w2.heap[w.heap.size]? = some (.cells #[.pointer (some ⟨q, 0, none⟩)] 159) := (hm2.same hNlt id).trans HN1.out
 have Hb2 := zh hb2
 have H92 := zh h91
 have hpl := H2.out.nd.lt
 have hN2l := (Array.getElem?_eq_some_iff.1 hN2).1
 have hww : w.heap.size ≤ w1.heap.size := by omega
 clear hq0 hb0 hm2 hb2 h91
 generalize ext own1 w1.heap.size 9 = own2 at *
 refine wpIn_wide.1 (others_loop (id := r.id) Hn7.out ⟨one_cell hN2, H2.out.nd.cn, H2.out.nd.cid⟩ h92 hN2l hpl rfl rfl
  (fun k ow A => ∃ x', StAt ow A i p q g t0 who0 r x' (fo r r.update o k) ∧ Adds x x' ∧ Mv (fun l => l = 7) own w ow A ∧ A.heap[w.heap.size]? = some (.cells #[.pointer (some ⟨q, 0, none⟩)] 159) ∧ ow w.heap.size = 9)
  ?hp0 ?ho0 ?h00 ?a10 ?as0 ?bo0 ?do0)
 case as0 =>
  intro l k W K hK
  gi_wp2
  exact hK
 case hp0 =>
  rintro k ow A l o' ⟨x', h1, h2, h3, h4, h5⟩ hl9 hll
  exact ⟨x', h1.put hl9 o', h2, h3.putNew (by omega) o', (World.putObj_heap_other (by omega)).trans h4, h5⟩
 case ho0 =>
  rintro k ow A ⟨x', h1, h2, h3, h4, h5⟩
  exact ⟨h1.nd.cn, h1.nd.cid⟩
 case h00 =>
  intro W hB
  exact ⟨x, H2.out.below hB, Adds.refl x, HM2.out.trans (Mv.of_below hB 9), (hB.block _ (by omega)).trans Hb2.out, (ext_lt (by omega)).trans H92.out⟩
 case bo0 =>
  rintro l k ow W ⟨x', h1, h2, h3, h4, h5⟩ hk hm
  have hlen := fo_len r r.update o (update_len r) k (by omega)
  have hol := otTo_len r.id r.n
  have hfm := otTo_mem hk
  have Hup := zh (update_w ow i p q g t0 who0 r x' (fo r r.update o k) W h1 M Hb.out (otAt r.id r.n k) (by have := Hn7.out; omega) (by have := Hn7.out; omega) (by have := Hn7.out; omega))
  have Hs := zh (fo_succ r r.update o hk)
  have hb0 := one_cell h4
  have H3 := zh (And.intro h2 (And.intro h3 (And.intro h4 h5)))
  clear h1 h2 h3 h4 h5 hm hlen hol hfm hk
  generalize otAt r.id r.n k = f at *
  gi_wp2_with (refine ⟨trivial, rfl, ?_⟩; gi_at_call 130; refine (CallsIn.inRound l (callsIn_wide.2 Hup.out)).mono ?_; rintro e W5 ⟨⟨v, rfl⟩, own5, x5, h5, a5, m5⟩; have H5 := zh h5; have HA5 := zh a5; have HM5 := zh m5; clear h5 a5 m5)
  have hlt := (Array.getElem?_eq_some_iff.1 H3.out.2.2.1).1
  refine ⟨own5, ⟨x5, by rw [Hs.out]; exact H5.out, H3.out.1.trans HA5.out, H3.out.2.1.trans HM5.out, (HM5.out.same hlt (by rw [H3.out.2.2.2]; decide)).trans H3.out.2.2.1, (HM5.out.lab _ hlt).trans H3.out.2.2.2⟩, HM5.out.mono fun l e => by rw [e]; decide⟩
 case do0 =>
  rintro W ow ⟨x', h1, h2, h3, h4, h5⟩ hm hl9 hD
  rw [fo_all] at h1
  have H5 := zh h1
  have HA5 := zh h2
  have HM5 := zh h3
  have HD := zh hD
  clear h1 h2 h3 h4 h5 hm hD
  go_wp2
  rw [← HQ.out]
  refine ⟨by simp, .inl ⟨_, _, rfl, run_takeDeferred HD.out, ?_⟩⟩
  exact ⟨_, results_none rfl _ _ _, ⟨_, rfl⟩, ow, x', H5.out.put hl9 _, HA5.out, HM5.out.putNew (by omega) _⟩
end
end Go.Proofs.Yteellfgiejnigaa
