/- RaftSafe: G12. -/
import Derived.Test.YteellfgiejnigaaQtA00
import Derived.Test.YteellfgiejnigaaQtA17
namespace Go.Proofs.Yteellfgiejnigaa
open Go.ChangeShapes Go.WideShapes Go.ChangeAt Go.RowKit
set_option linter.unusedVariables false
attribute [local go_sem] Oper.semAt_some
structure Bx (own : Own) (W : World) (N : Nat) (cs : Array Value) (t : TypeId) : Prop where
 row : W.heap[N]? = some (.cells cs t)
 lab : own N = 9
section
variable {own own' : Own} {w w' W : World} {N : Nat} {cs : Array Value} {t : TypeId}
theorem Bx.lt (h : Bx own W N cs t) : N < W.heap.size := (Array.getElem?_eq_some_iff.1 h.row).1
theorem Bx.mv {L : Nat → Prop} (h : Bx own w N cs t) (m : Mv L own w own' w') (h9 : ¬ L 9) : Bx own' w' N cs t := ⟨(m.same h.lt (by rw [h.lab]; exact h9)).trans h.row, (m.lab _ h.lt).trans h.lab⟩
theorem Bx.set (h : Bx own W N cs t) (k : Nat) (v : Value) : Bx own (W.setCell ⟨N, k, none⟩ v) N (cs.setIfInBounds k v) t := ⟨heap_setCell_same h.row v, h.lab⟩
theorem Bx.setNe (h : Bx own W N cs t) {a : Addr} (hne : N ≠ a.block) (v : Value) : Bx own (W.setCell a v) N cs t := ⟨(Below.heap_setCell _ _ _ _ hne).trans h.row, h.lab⟩
theorem Bx.setRow (h : Bx own W N cs t) (ds : Array Value) : Bx own (W.setRow N ds) N ds t := ⟨setRow_heap _ _ _ _ _ _ h.row, h.lab⟩
theorem Bx.setRowNe (h : Bx own W N cs t) {b : Nat} (hne : N ≠ b) (ds : Array Value) : Bx own (W.setRow b ds) N cs t := ⟨(setRow_other _ _ _ _ hne).trans h.row, h.lab⟩
theorem Bx.put (h : Bx own W N cs t) {l : Nat} (hne : N ≠ l) (o' : Obj) : Bx own (W.putObj l o') N cs t := ⟨(World.putObj_heap_other hne).trans h.row, h.lab⟩
theorem Bx.new (own : Own) (w : World) (cs : Array Value) (t : TypeId) : Bx (ext own w.heap.size 9) (w.alloc (.cells cs t)) w.heap.size cs t := ⟨heap_alloc_new w _, ext_ge (Nat.le_refl _)⟩
theorem Bx.c (h : Bx own W N cs t) (k : Nat) : W.cell? ⟨N, k, none⟩ = cs[k]? := cell_of_row _ _ _ _ _ _ h.row
theorem Bx.c0 {v : Value} (h : Bx own W N #[v] t) : W.cell? ⟨N, 0, none⟩ = some v := one_cell h.row
theorem Bx.frozen (h : Bx own W N cs t) (k : Nat) : W.frozen? ⟨N, k, none⟩ = false := row_frozen k h.row
theorem Bx.below (h : Bx own w N cs t) (hB : Below w.heap.size w w') : Bx (ext own w.heap.size 9) w' N cs t := h.mv (L := fun _ => False) (Mv.of_below hB 9) id
theorem Bx.alloc (h : Bx own w N cs t) (ob : Obj) : Bx (ext own w.heap.size 9) (w.alloc ob) N cs t := h.mv (Mv.alloc own w ob 9) id
end
section
variable {own own' : Own} {w w' : World} {i p q g t0 N : Nat} {who0 : Int} {r : RS.Rf} {x : Ov} {o : RS.Ou} {M : Nat} {cs : Array Value} {t : TypeId}
theorem StAt.alloc (h : StAt own w i p q g t0 who0 r x o) (ob : Obj) : StAt (ext own w.heap.size 9) (w.alloc ob) i p q g t0 who0 r x o := h.mv (Mv.alloc own w ob 9) id id
theorem StAt.mv9 (h : StAt own w i p q g t0 who0 r x o) (m : Mv (fun l => l = 9) own w own' w') : StAt own' w' i p q g t0 who0 r x o := h.mv m (by have := h.nd.hi; omega) (by decide)
theorem StAt.set9 (h : StAt own w i p q g t0 who0 r x o) (hb : Bx own w N cs t) (k : Nat) (v : Value) : StAt own (w.setCell ⟨N, k, none⟩ v) i p q g t0 who0 r x o := h.mv9 (Mv.set (a := ⟨N, k, none⟩) hb.lab v)
theorem StAt.row9 (h : StAt own w i p q g t0 who0 r x o) (hb : Bx own w N cs t) (ds : Array Value) : StAt own (w.setRow N ds) i p q g t0 who0 r x o :=
 h.mv9 ⟨⟨rfl, rfl, rfl, by rw [setRow_size]; exact Nat.le_refl _, fun b hb' hn => setRow_other _ _ _ _ (fun e => hn (by subst e; exact hb.lab))⟩, fun _ _ => rfl⟩
theorem StAt.bxne (h : StAt own w i p q g t0 who0 r x o) (hb : Bx own w N cs t) : q ≠ N := fun e => by have h1 := h.oq; have h2 := hb.lab; rw [e, h2] at h1; omega
theorem StAt.bxnp (h : StAt own w i p q g t0 who0 r x o) (hb : Bx own w N cs t) : p ≠ N := fun e => by have h1 := h.nd.op; have h2 := hb.lab; have h3 := h.nd.hi; rw [e, h2] at h1; omega
theorem Mv.alloc7 {L : Nat → Prop} (h : Mv L own w own' w') (ob : Obj) : Mv L own w (ext own' w'.heap.size 9) (w'.alloc ob) := h.trans ((Mv.alloc own' w' ob 9).mono fun _ e => e.elim)
theorem Mv.below {L : Nat → Prop} (h : Mv L own w own' w') {w2 : World} (hB : Below w'.heap.size w' w2) : Mv L own w (ext own' w'.heap.size 9) w2 := h.trans (Mv.of_below hB 9)
set_option maxRecDepth 100000 in
set_option maxHeartbeats 1000000 in
theorem ask1_w (own : Own) (i p q g t0 : Nat) (who0 : Int) (r : RS.Rf) (x : Ov) (o : RS.Ou) (w : World) (h : StAt own w i p q g t0 who0 r x o) (M : Nat) (hb : Nb M r) (hs : o.send.length ≤ 900) :
 Calls Try.prog 114 #[.pointer (some ⟨q, 0, none⟩), .int .u8 1] w fun e w' => (∃ v, e = .returned v) ∧ Stp own w (fun l => l = 7) i p q g t0 who0 r x (r.ask o 1) w' := by
 obtain ⟨w1, hw1⟩ : ∃ w1, w.alloc (.cells #[.pointer (some ⟨q, 0, none⟩)] 159) = w1 := ⟨_, rfl⟩
 have H1 := zh (h.alloc (.cells #[.pointer (some ⟨q, 0, none⟩)] 159))
 have HX1 := zh (Bx.new own w #[.pointer (some ⟨q, 0, none⟩)] 159)
 have HM1 := zh ((Mv.refl (fun l => l = 7) own w).alloc7 (.cells #[.pointer (some ⟨q, 0, none⟩)] 159))
 have Hb := zh hb
 have Hn7 := zh hb.n7
 have Hlen := zh (show r.es.length ≤ 1000000 by have := hb.len; have := hb.hM; omega)
 rw [hw1] at H1 HX1 HM1
 have HW := zh hw1
 clear h hw1 hb
 generalize ext own w.heap.size 9 = own1 at *
 have hsz : w.heap.size < w1.heap.size := HX1.out.lt
 obtain ⟨last, hlast⟩ : ∃ n, n = r.base + r.es.length := ⟨_, rfl⟩
 obtain ⟨tip, htip⟩ : ∃ n, n = tipT r.bt r.es := ⟨_, rfl⟩
 have Hl := zh hlast
 have Ht := zh htip
 refine (callsIn_wide (n := 0)).1 (callsIn_of_wp_marks Try.func114 rfl trivial ?_ rfl)
 refine wpIn_wide.2 ?_
 simp only [Try.ntmps114, List.size_toArray, List.length_cons, List.length_nil, Nat.reduceAdd, Nat.reduceSub, Array.replicate_succ, Array.replicate_zero, List.push_toArray, List.append_toArray, List.nil_append, List.cons_append]
 generalize hQ : bodyPostM Fence.wide 0 Try.prog _ _ = Q
 have HQ := zh hQ
 clear hQ hlast htip
 go_upto_region 1 with (fail)
 rw [HW.out]
 have HN1 := zh (heap_alloc_new w1 (.cells #[.int .u8 0, .int .u64 0, .int .u64 0, .int .u64 0, .int .u64 0, .int .u64 0, .bool false, .slice none 0 0, .slice none 0 0] 31))
 go_upto_region 2 with (refine wpList_store_rowTo rfl 31 (.tmp 4) (.tmp 7) rfl rfl _ #[.int .u8 1, .int .u64 0, .int .u64 0, .int .u64 0, .int .u64 0, .int .u64 0, .bool false, .slice none 0 0, .slice none 0 0] rfl rfl 31 _ HN1.out (show _ = some 9 by kernel_rfl) rfl (by simp [Value.oneCell']) ?_)
 have hNA := (Bx.new own1 w1 #[.int .u8 0, .int .u64 0, .int .u64 0, .int .u64 0, .int .u64 0, .int .u64 0, .bool false, .slice none 0 0, .slice none 0 0] 31)
 have HN2 := zh (hNA.setRow #[.int .u8 1, .int .u64 0, .int .u64 0, .int .u64 0, .int .u64 0, .int .u64 0, .bool false, .slice none 0 0, .slice none 0 0])
 have HX2 := zh ((HX1.out.alloc (.cells #[.int .u8 0, .int .u64 0, .int .u64 0, .int .u64 0, .int .u64 0, .int .u64 0, .bool false, .slice none 0 0, .slice none 0 0] 31)).setRowNe (b := w1.heap.size) (by omega) #[.int .u8 1, .int .u64 0, .int .u64 0, .int .u64 0, .int .u64 0, .int .u64 0, .bool false, .slice none 0 0, .slice none 0 0])
 have H2 := zh ((H1.out.alloc _).row9 hNA #[.int .u8 1, .int .u64 0, .int .u64 0, .int .u64 0, .int .u64 0, .int .u64 0, .bool false, .slice none 0 0, .slice none 0 0])
 have HM2 := zh ((HM1.out.alloc7 (.cells #[.int .u8 0, .int .u64 0, .int .u64 0, .int .u64 0, .int .u64 0, .int .u64 0, .bool false, .slice none 0 0, .slice none 0 0] 31)).newRow (N := w1.heap.size) (by omega) #[.int .u8 1, .int .u64 0, .int .u64 0, .int .u64 0, .int .u64 0, .int .u64 0, .bool false, .slice none 0 0, .slice none 0 0])
 clear hNA HN1 HX1 H1 HM1 HW
 generalize ext own1 w1.heap.size 9 = own2 at *
 generalize (w1.alloc (.cells #[.int .u8 0, .int .u64 0, .int .u64 0, .int .u64 0, .int .u64 0, .int .u64 0, .bool false, .slice none 0 0, .slice none 0 0] 31)).setRow w1.heap.size #[.int .u8 1, .int .u64 0, .int .u64 0, .int .u64 0, .int .u64 0, .int .u64 0, .bool false, .slice none 0 0, .slice none 0 0] = w2 at *
 have hb0 := HX2.out.c0
 have hq0 := H2.out.q0
 have hp5 := H2.out.nd.ctk
 have Htip := zh (H2.out.nd.tk.elim fun v htk => tip_w _ g r.base r.bt v r.es w2 htk Hlen.out)
 rw [← Hl.out, ← Ht.out] at Htip
 go_upto_region 3 with (go_at_call 23; refine (Htip.out).mono ?_; rintro e w3 ⟨rfl, hB⟩; have H3 := zh (H2.out.below hB); have HX3 := zh (HX2.out.below hB); have HN3 := zh (HN2.out.below hB); have HM3 := zh (HM2.out.below hB); clear hB hq0 hp5 hb0; have f3 := HN3.out.frozen 3; have f4 := HN3.out.frozen 4; have k3 : w3.cell? ⟨w1.heap.size, 3, none⟩ = some (.int .u64 0) := HN3.out.c 3; have k4 : w3.cell? ⟨w1.heap.size, 4, none⟩ = some (.int .u64 0) := HN3.out.c 4)
 have hN4 : Bx (ext own2 w2.heap.size 9) ((w3.setCell ⟨w1.heap.size, 3, none⟩ (.int .u64 (last : Int))).setCell ⟨w1.heap.size, 4, none⟩ (.int .u64 (tip : Int))) w1.heap.size #[.int .u8 1, .int .u64 0, .int .u64 0, .int .u64 (last : Int), .int .u64 (tip : Int), .int .u64 0, .bool false, .slice none 0 0, .slice none 0 0] 31 := (HN3.out.set 3 _).set 4 _
 have HN4 := zh hN4
 have HX4 := zh ((HX3.out.setNe (a := ⟨w1.heap.size, 3, none⟩) (by show w.heap.size ≠ w1.heap.size; omega) (.int .u64 (last : Int))).setNe (a := ⟨w1.heap.size, 4, none⟩) (by show w.heap.size ≠ w1.heap.size; omega) (.int .u64 (tip : Int)))
 have H4 := zh ((H3.out.set9 HN3.out 3 (.int .u64 (last : Int))).set9 (HN3.out.set 3 _) 4 (.int .u64 (tip : Int)))
 have HM4 := zh ((HM3.out.newCell (a := ⟨w1.heap.size, 3, none⟩) (by show w.heap.size ≤ w1.heap.size; omega) (.int .u64 (last : Int))).newCell (a := ⟨w1.heap.size, 4, none⟩) (by show w.heap.size ≤ w1.heap.size; omega) (.int .u64 (tip : Int)))
 clear k3 k4 f3 f4 hN4 H2 HX2 HN2 HM2 H3 HX3 HN3 HM3 Htip
 generalize ext own2 w2.heap.size 9 = own4 at *
 generalize (w3.setCell ⟨w1.heap.size, 3, none⟩ (.int .u64 (last : Int))).setCell ⟨w1.heap.size, 4, none⟩ (.int .u64 (tip : Int)) = w4 at *
 have hb0 := HX4.out.c0
 have hq0 := H4.out.q0
 have hp12 := H4.out.nd.cround
 have k2 : w4.cell? ⟨w1.heap.size, 2, none⟩ = some (.int .u64 0) := HN4.out.c 2
 have f2 := HN4.out.frozen 2
 go_upto_region 5 with (fail)
 have hN5 : Bx own4 (w4.setCell ⟨w1.heap.size, 2, none⟩ (.int .u64 (r.round : Int))) w1.heap.size #[.int .u8 1, .int .u64 0, .int .u64 (r.round : Int), .int .u64 (last : Int), .int .u64 (tip : Int), .int .u64 0, .bool false, .slice none 0 0, .slice none 0 0] 31 := HN4.out.set 2 _
 have HN5 := zh hN5
 have HX5 := zh (HX4.out.setNe (a := ⟨w1.heap.size, 2, none⟩) (by show w.heap.size ≠ w1.heap.size; omega) (.int .u64 (r.round : Int)))
 have H5 := zh (H4.out.set9 HN4.out 2 (.int .u64 (r.round : Int)))
 have HM5 := zh (HM4.out.newCell (a := ⟨w1.heap.size, 2, none⟩) (by show w.heap.size ≤ w1.heap.size; omega) (.int .u64 (r.round : Int)))
 clear k2 f2 hp12 hb0 hq0 hN5 HN4 HX4 H4 HM4
 generalize w4.setCell ⟨w1.heap.size, 2, none⟩ (.int .u64 (r.round : Int)) = w5 at *
 have hb0 := HX5.out.c0
 have hq0 := H5.out.q0
 go_wp2_with (go_at_call 129; refine (others_w p w5).mono ?_; rintro e w6 ⟨rfl, hw6⟩; have HW6 := zh hw6; clear hw6)
 have hO : Bx (ext own4 w5.heap.size 9) w6 w5.heap.size #[.pointer (some ⟨p, 0, none⟩)] 86 := by rw [HW6.out]; exact Bx.new own4 w5 _ 86
 have hs6 : w6.heap.size = w5.heap.size + 1 := by rw [HW6.out]; simp
 have H6 := zh (show StAt (ext own4 w5.heap.size 9) w6 i p q g t0 who0 r x o by rw [HW6.out]; exact H5.out.alloc _)
 have HX6 := zh (show Bx (ext own4 w5.heap.size 9) w6 w.heap.size #[.pointer (some ⟨q, 0, none⟩)] 159 by rw [HW6.out]; exact HX5.out.alloc _)
 have HN6 := zh (show Bx (ext own4 w5.heap.size 9) w6 w1.heap.size #[.int .u8 1, .int .u64 0, .int .u64 (r.round : Int), .int .u64 (last : Int), .int .u64 (tip : Int), .int .u64 0, .bool false, .slice none 0 0, .slice none 0 0] 31 by rw [HW6.out]; exact HN5.out.alloc _)
 have HM6 := zh (show Mv (fun l => l = 7) own w (ext own4 w5.heap.size 9) w6 by rw [HW6.out]; exact HM5.out.alloc7 _)
 have HO := zh hO
 have hw5 : w.heap.size ≤ w6.heap.size := by have := HX6.out.lt; omega
 clear hO hb0 hq0 HN5 HX5 H5 HM5 HW6
 generalize ext own4 w5.heap.size 9 = own6 at *
 refine wpIn_wide.1 (others_loop (id := r.id) Hn7.out ⟨HO.out.c0, H6.out.nd.cn, H6.out.nd.cid⟩ HO.out.lab HO.out.lt H6.out.nd.lt rfl rfl
  (fun k ow A => ∃ x', StAt ow A i p q g t0 who0 r x' (fo r (fun o i => r.put o i (r.askN 1)) o k) ∧ Adds x x' ∧ Mv (fun l => l = 7) own w ow A ∧ Bx ow A w.heap.size #[.pointer (some ⟨q, 0, none⟩)] 159 ∧ Bx ow A w1.heap.size #[.int .u8 1, .int .u64 0, .int .u64 (r.round : Int), .int .u64 (last : Int), .int .u64 (tip : Int), .int .u64 0, .bool false, .slice none 0 0, .slice none 0 0] 31)
  ?hp0 ?ho0 ?h00 ?a10 ?as0 ?bo0 ?do0)
 case as0 =>
  intro l k W K hK
  gi_wp2
  exact hK
 case hp0 =>
  rintro k ow A l o' ⟨x', h1, h2, h3, h4, h5⟩ hl9 hll
  have a1 := HX6.out.lt
  have a2 := HN6.out.lt
  exact ⟨x', h1.put hl9 o', h2, h3.putNew (by omega) o', h4.put (by omega) o', h5.put (by omega) o'⟩
 case ho0 =>
  rintro k ow A ⟨x', h1, h2, h3, h4, h5⟩
  exact ⟨h1.nd.cn, h1.nd.cid⟩
 case h00 =>
  intro W hB
  exact ⟨x, H6.out.below hB, Adds.refl x, HM6.out.below hB, HX6.out.below hB, HN6.out.below hB⟩
 case bo0 =>
  rintro l k ow W ⟨x', h1, h2, h3, h4, h5⟩ hk hm
  have hlen := fo_len r (fun o i => r.put o i (r.askN 1)) o (fun o j => put_len r o j _) k (by omega)
  have hol := otTo_len r.id r.n
  have Hsend := zh (send_w ow i p q g t0 who0 r x' (fo r (fun o i => r.put o i (r.askN 1)) o k) W h1 (otAt r.id r.n k) (r.askN 1) 1 0 (r.round : Int) (last : Int) (tip : Int) 0 false none 0 0 none 0 0 rfl rfl (by rw [Hl.out]; rfl) (by rw [Ht.out]; show _ = ((RS.tipT r.bt r.es : Nat) : Int); rw [tipT_rs]) rfl rfl (EsR.nil _ _) (datA_nil _ _ _ _ nilPtB) (by have := Hn7.out; omega))
  have Hs := zh (fo_succ r (fun o i => r.put o i (r.askN 1)) o hk)
  have hb0 := h4.c0
  have HNr := zh h5.row
  have H3 := zh (And.intro h2 (And.intro h3 (And.intro h4 h5)))
  clear h1 h2 h3 h4 h5 hm hlen hol hk
  generalize otAt r.id r.n k = f at *
  gi_wp2_with (first
   | (refine wpListIn_exec (fun _ => trivial) rfl (fun c h => by cases h) (load_row 31 (.tmp 4) rfl rfl HNr.out Try.underlying31 rfl (show _ = some 9 by kernel_rfl)) ?_)
   | (refine ⟨trivial, rfl, ?_⟩; gi_at_call 120; refine (CallsIn.inRound l (callsIn_wide.2 Hsend.out)).mono ?_; rintro e W5 ⟨⟨v, rfl⟩, own5, x5, h5, a1, a2, a3, m5⟩; have H5 := zh h5; have HA5 := zh (show Adds x' x5 from ⟨a1, a2, a3⟩); have HM5 := zh m5; clear h5 a1 a2 a3 m5))
  exact ⟨own5, ⟨x5, by rw [Hs.out]; exact H5.out, H3.out.1.trans HA5.out, H3.out.2.1.trans HM5.out, H3.out.2.2.1.mv HM5.out (by decide), H3.out.2.2.2.mv HM5.out (by decide)⟩, HM5.out.mono fun l e => by rw [e]; decide⟩
 case do0 =>
  rintro W ow ⟨x', h1, h2, h3, h4, h5⟩ hm hl9 hD
  rw [fo_all] at h1
  have H5 := zh h1
  have HA5 := zh h2
  have HM5 := zh h3
  have HD := zh hD
  clear h1 h2 h3 h4 h5 hm hD
  go_wp2
  rw [← HQ.out]
  refine ⟨by simp, .inl ⟨_, _, rfl, run_takeDeferred HD.out, ?_⟩⟩
  exact ⟨_, results_none rfl _ _ _, ⟨_, rfl⟩, ow, x', H5.out.put hl9 _, HA5.out, HM5.out.putNew (by omega) _⟩
set_option maxRecDepth 100000 in
set_option maxHeartbeats 1000000 in
theorem ask3_w (own : Own) (i p q g t0 : Nat) (who0 : Int) (r : RS.Rf) (x : Ov) (o : RS.Ou) (w : World) (h : StAt own w i p q g t0 who0 r x o) (M : Nat) (hb : Nb M r) (hs : o.send.length ≤ 900) :
 Calls Try.prog 114 #[.pointer (some ⟨q, 0, none⟩), .int .u8 3] w fun e w' => (∃ v, e = .returned v) ∧ Stp own w (fun l => l = 7) i p q g t0 who0 r x (r.ask o 3) w' := by
 obtain ⟨w1, hw1⟩ : ∃ w1, w.alloc (.cells #[.pointer (some ⟨q, 0, none⟩)] 159) = w1 := ⟨_, rfl⟩
 have H1 := zh (h.alloc (.cells #[.pointer (some ⟨q, 0, none⟩)] 159))
 have HX1 := zh (Bx.new own w #[.pointer (some ⟨q, 0, none⟩)] 159)
 have HM1 := zh ((Mv.refl (fun l => l = 7) own w).alloc7 (.cells #[.pointer (some ⟨q, 0, none⟩)] 159))
 have Hb := zh hb
 have Hn7 := zh hb.n7
 have Hlen := zh (show r.es.length ≤ 1000000 by have := hb.len; have := hb.hM; omega)
 rw [hw1] at H1 HX1 HM1
 have HW := zh hw1
 clear h hw1 hb
 generalize ext own w.heap.size 9 = own1 at *
 have hsz : w.heap.size < w1.heap.size := HX1.out.lt
 obtain ⟨last, hlast⟩ : ∃ n, n = r.base + r.es.length := ⟨_, rfl⟩
 obtain ⟨tip, htip⟩ : ∃ n, n = tipT r.bt r.es := ⟨_, rfl⟩
 have Hl := zh hlast
 have Ht := zh htip
 refine (callsIn_wide (n := 0)).1 (callsIn_of_wp_marks Try.func114 rfl trivial ?_ rfl)
 refine wpIn_wide.2 ?_
 simp only [Try.ntmps114, List.size_toArray, List.length_cons, List.length_nil, Nat.reduceAdd, Nat.reduceSub, Array.replicate_succ, Array.replicate_zero, List.push_toArray, List.append_toArray, List.nil_append, List.cons_append]
 generalize hQ : bodyPostM Fence.wide 0 Try.prog _ _ = Q
 have HQ := zh hQ
 clear hQ hlast htip
 go_upto_region 1 with (fail)
 rw [HW.out]
 have HN1 := zh (heap_alloc_new w1 (.cells #[.int .u8 0, .int .u64 0, .int .u64 0, .int .u64 0, .int .u64 0, .int .u64 0, .bool false, .slice none 0 0, .slice none 0 0] 31))
 go_upto_region 2 with (refine wpList_store_rowTo rfl 31 (.tmp 4) (.tmp 7) rfl rfl _ #[.int .u8 3, .int .u64 0, .int .u64 0, .int .u64 0, .int .u64 0, .int .u64 0, .bool false, .slice none 0 0, .slice none 0 0] rfl rfl 31 _ HN1.out (show _ = some 9 by kernel_rfl) rfl (by simp [Value.oneCell']) ?_)
 have hNA := (Bx.new own1 w1 #[.int .u8 0, .int .u64 0, .int .u64 0, .int .u64 0, .int .u64 0, .int .u64 0, .bool false, .slice none 0 0, .slice none 0 0] 31)
 have HN2 := zh (hNA.setRow #[.int .u8 3, .int .u64 0, .int .u64 0, .int .u64 0, .int .u64 0, .int .u64 0, .bool false, .slice none 0 0, .slice none 0 0])
 have HX2 := zh ((HX1.out.alloc (.cells #[.int .u8 0, .int .u64 0, .int .u64 0, .int .u64 0, .int .u64 0, .int .u64 0, .bool false, .slice none 0 0, .slice none 0 0] 31)).setRowNe (b := w1.heap.size) (by omega) #[.int .u8 3, .int .u64 0, .int .u64 0, .int .u64 0, .int .u64 0, .int .u64 0, .bool false, .slice none 0 0, .slice none 0 0])
 have H2 := zh ((H1.out.alloc _).row9 hNA #[.int .u8 3, .int .u64 0, .int .u64 0, .int .u64 0, .int .u64 0, .int .u64 0, .bool false, .slice none 0 0, .slice none 0 0])
 have HM2 := zh ((HM1.out.alloc7 (.cells #[.int .u8 0, .int .u64 0, .int .u64 0, .int .u64 0, .int .u64 0, .int .u64 0, .bool false, .slice none 0 0, .slice none 0 0] 31)).newRow (N := w1.heap.size) (by omega) #[.int .u8 3, .int .u64 0, .int .u64 0, .int .u64 0, .int .u64 0, .int .u64 0, .bool false, .slice none 0 0, .slice none 0 0])
 clear hNA HN1 HX1 H1 HM1 HW
 generalize ext own1 w1.heap.size 9 = own2 at *
 generalize (w1.alloc (.cells #[.int .u8 0, .int .u64 0, .int .u64 0, .int .u64 0, .int .u64 0, .int .u64 0, .bool false, .slice none 0 0, .slice none 0 0] 31)).setRow w1.heap.size #[.int .u8 3, .int .u64 0, .int .u64 0, .int .u64 0, .int .u64 0, .int .u64 0, .bool false, .slice none 0 0, .slice none 0 0] = w2 at *
 have hb0 := HX2.out.c0
 have hq0 := H2.out.q0
 have hp5 := H2.out.nd.ctk
 have Htip := zh (H2.out.nd.tk.elim fun v htk => tip_w _ g r.base r.bt v r.es w2 htk Hlen.out)
 rw [← Hl.out, ← Ht.out] at Htip
 go_upto_region 3 with (go_at_call 23; refine (Htip.out).mono ?_; rintro e w3 ⟨rfl, hB⟩; have H3 := zh (H2.out.below hB); have HX3 := zh (HX2.out.below hB); have HN3 := zh (HN2.out.below hB); have HM3 := zh (HM2.out.below hB); clear hB hq0 hp5 hb0; have f3 := HN3.out.frozen 3; have f4 := HN3.out.frozen 4; have k3 : w3.cell? ⟨w1.heap.size, 3, none⟩ = some (.int .u64 0) := HN3.out.c 3; have k4 : w3.cell? ⟨w1.heap.size, 4, none⟩ = some (.int .u64 0) := HN3.out.c 4)
 have hN4 : Bx (ext own2 w2.heap.size 9) ((w3.setCell ⟨w1.heap.size, 3, none⟩ (.int .u64 (last : Int))).setCell ⟨w1.heap.size, 4, none⟩ (.int .u64 (tip : Int))) w1.heap.size #[.int .u8 3, .int .u64 0, .int .u64 0, .int .u64 (last : Int), .int .u64 (tip : Int), .int .u64 0, .bool false, .slice none 0 0, .slice none 0 0] 31 := (HN3.out.set 3 _).set 4 _
 have HN4 := zh hN4
 have HX4 := zh ((HX3.out.setNe (a := ⟨w1.heap.size, 3, none⟩) (by show w.heap.size ≠ w1.heap.size; omega) (.int .u64 (last : Int))).setNe (a := ⟨w1.heap.size, 4, none⟩) (by show w.heap.size ≠ w1.heap.size; omega) (.int .u64 (tip : Int)))
 have H4 := zh ((H3.out.set9 HN3.out 3 (.int .u64 (last : Int))).set9 (HN3.out.set 3 _) 4 (.int .u64 (tip : Int)))
 have HM4 := zh ((HM3.out.newCell (a := ⟨w1.heap.size, 3, none⟩) (by show w.heap.size ≤ w1.heap.size; omega) (.int .u64 (last : Int))).newCell (a := ⟨w1.heap.size, 4, none⟩) (by show w.heap.size ≤ w1.heap.size; omega) (.int .u64 (tip : Int)))
 clear k3 k4 f3 f4 hN4 H2 HX2 HN2 HM2 H3 HX3 HN3 HM3 Htip
 generalize ext own2 w2.heap.size 9 = own4 at *
 generalize (w3.setCell ⟨w1.heap.size, 3, none⟩ (.int .u64 (last : Int))).setCell ⟨w1.heap.size, 4, none⟩ (.int .u64 (tip : Int)) = w4 at *
 have hb0 := HX4.out.c0
 have hq0 := H4.out.q0
 have HN5 := HN4
 have HX5 := HX4
 have H5 := H4
 have HM5 := HM4
 clear HN4 HX4 H4 HM4
 obtain ⟨w5, hw5⟩ : ∃ w5, w5 = w4 := ⟨_, rfl⟩
 subst hw5
 go_wp2_with (go_at_call 129; refine (others_w p w5).mono ?_; rintro e w6 ⟨rfl, hw6⟩; have HW6 := zh hw6; clear hw6)
 have hO : Bx (ext own4 w5.heap.size 9) w6 w5.heap.size #[.pointer (some ⟨p, 0, none⟩)] 86 := by rw [HW6.out]; exact Bx.new own4 w5 _ 86
 have hs6 : w6.heap.size = w5.heap.size + 1 := by rw [HW6.out]; simp
 have H6 := zh (show StAt (ext own4 w5.heap.size 9) w6 i p q g t0 who0 r x o by rw [HW6.out]; exact H5.out.alloc _)
 have HX6 := zh (show Bx (ext own4 w5.heap.size 9) w6 w.heap.size #[.pointer (some ⟨q, 0, none⟩)] 159 by rw [HW6.out]; exact HX5.out.alloc _)
 have HN6 := zh (show Bx (ext own4 w5.heap.size 9) w6 w1.heap.size #[.int .u8 3, .int .u64 0, .int .u64 0, .int .u64 (last : Int), .int .u64 (tip : Int), .int .u64 0, .bool false, .slice none 0 0, .slice none 0 0] 31 by rw [HW6.out]; exact HN5.out.alloc _)
 have HM6 := zh (show Mv (fun l => l = 7) own w (ext own4 w5.heap.size 9) w6 by rw [HW6.out]; exact HM5.out.alloc7 _)
 have HO := zh hO
 have hw5 : w.heap.size ≤ w6.heap.size := by have := HX6.out.lt; omega
 clear hO hb0 hq0 HN5 HX5 H5 HM5 HW6
 generalize ext own4 w5.heap.size 9 = own6 at *
 refine wpIn_wide.1 (others_loop (id := r.id) Hn7.out ⟨HO.out.c0, H6.out.nd.cn, H6.out.nd.cid⟩ HO.out.lab HO.out.lt H6.out.nd.lt rfl rfl
  (fun k ow A => ∃ x', StAt ow A i p q g t0 who0 r x' (fo r (fun o i => r.put o i (r.askN 3)) o k) ∧ Adds x x' ∧ Mv (fun l => l = 7) own w ow A ∧ Bx ow A w.heap.size #[.pointer (some ⟨q, 0, none⟩)] 159 ∧ Bx ow A w1.heap.size #[.int .u8 3, .int .u64 0, .int .u64 0, .int .u64 (last : Int), .int .u64 (tip : Int), .int .u64 0, .bool false, .slice none 0 0, .slice none 0 0] 31)
  ?hp0 ?ho0 ?h00 ?a10 ?as0 ?bo0 ?do0)
 case as0 =>
  intro l k W K hK
  gi_wp2
  exact hK
 case hp0 =>
  rintro k ow A l o' ⟨x', h1, h2, h3, h4, h5⟩ hl9 hll
  have a1 := HX6.out.lt
  have a2 := HN6.out.lt
  exact ⟨x', h1.put hl9 o', h2, h3.putNew (by omega) o', h4.put (by omega) o', h5.put (by omega) o'⟩
 case ho0 =>
  rintro k ow A ⟨x', h1, h2, h3, h4, h5⟩
  exact ⟨h1.nd.cn, h1.nd.cid⟩
 case h00 =>
  intro W hB
  exact ⟨x, H6.out.below hB, Adds.refl x, HM6.out.below hB, HX6.out.below hB, HN6.out.below hB⟩
 case bo0 =>
  rintro l k ow W ⟨x', h1, h2, h3, h4, h5⟩ hk hm
  have hlen := fo_len r (fun o i => r.put o i (r.askN 3)) o (fun o j => put_len r o j _) k (by omega)
  have hol := otTo_len r.id r.n
  have Hsend := zh (send_w ow i p q g t0 who0 r x' (fo r (fun o i => r.put o i (r.askN 3)) o k) W h1 (otAt r.id r.n k) (r.askN 3) 3 0 0 (last : Int) (tip : Int) 0 false none 0 0 none 0 0 rfl rfl (by rw [Hl.out]; rfl) (by rw [Ht.out]; show _ = ((RS.tipT r.bt r.es : Nat) : Int); rw [tipT_rs]) rfl rfl (EsR.nil _ _) (datA_nil _ _ _ _ nilPtB) (by have := Hn7.out; omega))
  have Hs := zh (fo_succ r (fun o i => r.put o i (r.askN 3)) o hk)
  have hb0 := h4.c0
  have HNr := zh h5.row
  have H3 := zh (And.intro h2 (And.intro h3 (And.intro h4 h5)))
  clear h1 h2 h3 h4 h5 hm hlen hol hk
  generalize otAt r.id r.n k = f at *
  gi_wp2_with (first
   | (refine wpListIn_exec (fun _ => trivial) rfl (fun c h => by cases h) (load_row 31 (.tmp 4) rfl rfl HNr.out Try.underlying31 rfl (show _ = some 9 by kernel_rfl)) ?_)
   | (refine ⟨trivial, rfl, ?_⟩; gi_at_call 120; refine (CallsIn.inRound l (callsIn_wide.2 Hsend.out)).mono ?_; rintro e W5 ⟨⟨v, rfl⟩, own5, x5, h5, a1, a2, a3, m5⟩; have H5 := zh h5; have HA5 := zh (show Adds x' x5 from ⟨a1, a2, a3⟩); have HM5 := zh m5; clear h5 a1 a2 a3 m5))
  exact ⟨own5, ⟨x5, by rw [Hs.out]; exact H5.out, H3.out.1.trans HA5.out, H3.out.2.1.trans HM5.out, H3.out.2.2.1.mv HM5.out (by decide), H3.out.2.2.2.mv HM5.out (by decide)⟩, HM5.out.mono fun l e => by rw [e]; decide⟩
 case do0 =>
  rintro W ow ⟨x', h1, h2, h3, h4, h5⟩ hm hl9 hD
  rw [fo_all] at h1
  have H5 := zh h1
  have HA5 := zh h2
  have HM5 := zh h3
  have HD := zh hD
  clear h1 h2 h3 h4 h5 hm hD
  go_wp2
  rw [← HQ.out]
  refine ⟨by simp, .inl ⟨_, _, rfl, run_takeDeferred HD.out, ?_⟩⟩
  exact ⟨_, results_none rfl _ _ _, ⟨_, rfl⟩, ow, x', H5.out.put hl9 _, HA5.out, HM5.out.putNew (by omega) _⟩
end
end Go.Proofs.Yteellfgiejnigaa
