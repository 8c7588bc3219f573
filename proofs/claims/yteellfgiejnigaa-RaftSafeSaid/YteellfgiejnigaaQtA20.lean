/- RaftSafe: G14. -/
import Derived.Test.YteellfgiejnigaaQtA00
import Derived.Test.YteellfgiejnigaaQtA19
namespace Go.Proofs.Yteellfgiejnigaa
open Go.ChangeShapes Go.WideShapes Go.ChangeAt Go.RowKit
set_option linter.unusedVariables false
attribute [local go_sem] Oper.semAt_some
set_option maxRecDepth 100000 in
theorem lit92 {a : Act} {v0 v1 v4 : Value} {D : List Deferred} (hs : a.tmps.size = 92) (h0 : a.tmps.getD 0 undef = v0) (h1 : a.tmps.getD 1 undef = v1) (h4 : a.tmps.getD 4 undef = v4) (hd : a.defers = D) :
 ∃ T : Nat → Value, a = ⟨#[v0, v1, T 2, T 3, v4, T 5, T 6, T 7, T 8, T 9, T 10, T 11, T 12, T 13, T 14, T 15, T 16, T 17, T 18, T 19, T 20, T 21, T 22, T 23, T 24, T 25, T 26, T 27, T 28, T 29, T 30, T 31, T 32, T 33, T 34, T 35, T 36, T 37, T 38, T 39, T 40, T 41, T 42, T 43, T 44, T 45, T 46, T 47, T 48, T 49, T 50, T 51, T 52, T 53, T 54, T 55, T 56, T 57, T 58, T 59, T 60, T 61, T 62, T 63, T 64, T 65, T 66, T 67, T 68, T 69, T 70, T 71, T 72, T 73, T 74, T 75, T 76, T 77, T 78, T 79, T 80, T 81, T 82, T 83, T 84, T 85, T 86, T 87, T 88, T 89, T 90, T 91], D⟩ := by
 refine ⟨fun j => a.tmps.getD j undef, ?_⟩
 subst h0; subst h1; subst h4; subst hd
 have e : a.tmps = ((List.range 92).map fun j => a.tmps.getD j undef).toArray := by
  refine Array.ext (by simp [hs]) fun j h1 h2 => ?_
  simp [Array.getElem?_eq_getElem h1]
 have e2 : a = ⟨((List.range 92).map fun j => a.tmps.getD j undef).toArray, a.defers⟩ := by rw [← e]
 exact e2
def mark (D : Nat) : Deferred := { target := .collected D, args := #[] }
structure Marks (own : Own) (w : World) (ds : List Nat) (W : World) : Prop where
 nodup : ds.Nodup
 at_ : ∀ D, D ∈ ds → w.heap.size ≤ D ∧ own D = 9 ∧ W.heap[D]? = some (.deferred (some []))
theorem Marks.mv {L : Nat → Prop} {own own' : Own} {w W W' : World} {ds : List Nat} (h : Marks own w ds W) (m : Mv L own W own' W') (h9 : ¬ L 9) : Marks own' w ds W' :=
 ⟨h.nodup, fun D hD => by
  obtain ⟨a, b, c⟩ := h.at_ D hD
  have hl : D < W.heap.size := (Array.getElem?_eq_some_iff.1 c).1
  exact ⟨a, (m.lab D hl).trans b, (m.same hl (by rw [b]; exact h9)).trans c⟩⟩
theorem Marks.cons {own : Own} {w W : World} {ds : List Nat} (h : Marks own w ds W) {B : Nat} (hB : w.heap.size ≤ B) (h9 : own B = 9) (hD : W.heap[B]? = some (.deferred (some []))) (hne : ∀ D, D ∈ ds → D ≠ B) : Marks own w (B :: ds) W :=
 ⟨List.nodup_cons.2 ⟨fun hm => hne B hm rfl, h.nodup⟩, fun D hm => by
  rcases List.mem_cons.1 hm with rfl | hm
  · exact ⟨hB, h9, hD⟩
  · exact h.at_ D hm⟩
theorem leaves_marks {fn : Func} {tmps : Array Value} {R : Ending → World → Prop} (hres : fn.results = #[]) (own : Own) (w : World) (P : World → Prop) (hP : ∀ A D, P A → w.heap.size ≤ D → own D = 9 → P (A.putObj D (.deferred none))) (hR : ∀ A, P A → R (.returned (.tuple #[])) A) :
 ∀ (ds : List Nat) (W : World), Marks own w ds W → P W → LeavesInM Fence.wide 0 Try.prog fn tmps R (ds.map mark) .returning W := by
 intro ds
 induction ds with
 | nil => intro W _ hp; exact ⟨_, results_none hres _ _ _, hR W hp⟩
 | cons D ds ih =>
  intro W hm hp
  obtain ⟨a, b, c⟩ := hm.at_ D (List.mem_cons_self ..)
  refine ⟨by simp, .inl ⟨_, _, rfl, run_takeDeferred c, ih _ ⟨(List.nodup_cons.1 hm.nodup).2, fun E hE => ?_⟩ (hP W D hp a b)⟩⟩
  obtain ⟨a', b', c'⟩ := hm.at_ E (List.mem_cons_of_mem _ hE)
  exact ⟨a', b', (World.putObj_heap_other (fun e => (List.nodup_cons.1 hm.nodup).1 (by first | (rw [← e]; exact hE) | (rw [e]; exact hE)))).trans c'⟩
section
variable {own own' : Own} {w w' : World} {i p q g t0 N : Nat} {who0 : Int} {r : RS.Rf} {x : Ov} {o : RS.Ou} {M : Nat}
structure SeeR (own : Own) (w : World) (i p q g t0 : Nat) (who0 : Int) (r : RS.Rf) (x : Ov) (o : RS.Ou) (N1 : Nat) (ow : Own) (k N4 : Nat) (ds : List Nat) (W : World) : Prop where
 st : StAt ow W i p q g t0 who0 r x o
 x1 : Bx ow W N1 #[.pointer (some ⟨q, 0, none⟩)] 159
 n4 : Bx ow W N4 #[.int .u64 (k : Int)] 22
 mv : Mv (fun l => l = i) own w ow W
 ge : w.heap.size ≤ N4
 g1 : w.heap.size ≤ N1
 ne : N1 ≠ N4
 see : r.seeAt k = r.seeAt r.last
 kl : k ≤ r.last
 mks : Marks ow w ds W
theorem SeeR.move {N1 k N4 : Nat} {ow ow' : Own} {ds : List Nat} {W W' : World} (h : SeeR own w i p q g t0 who0 r x o N1 ow k N4 ds W) (m : Mv (fun _ => False) ow W ow' W') : SeeR own w i p q g t0 who0 r x o N1 ow' k N4 ds W' :=
 ⟨h.st.mv m id id, h.x1.mv m id, h.n4.mv m id, h.mv.trans (m.mono fun _ e => e.elim), h.ge, h.g1, h.ne, h.see, h.kl, h.mks.mv m id⟩
theorem SeeR.put {N1 k N4 : Nat} {ow : Own} {ds : List Nat} {W : World} (h : SeeR own w i p q g t0 who0 r x o N1 ow k N4 ds W) {l : Nat} (h9 : ow l = 9) (hl : w.heap.size ≤ l) (h1 : N1 < l) (h4 : N4 < l) (hd : ∀ D, D ∈ ds → D < l) (o' : Obj) : SeeR own w i p q g t0 who0 r x o N1 ow k N4 ds (W.putObj l o') :=
 ⟨h.st.put h9 o', h.x1.put (by omega) o', h.n4.put (by omega) o', h.mv.putNew hl o', h.ge, h.g1, h.ne, h.see, h.kl, ⟨h.mks.nodup, fun D hD => by
  obtain ⟨a, b, c⟩ := h.mks.at_ D hD
  have := hd D hD
  exact ⟨a, b, (World.putObj_heap_other (by omega)).trans c⟩⟩⟩
theorem SeeR.set8 {N1 k N4 N7 : Nat} {ow : Own} {ds : List Nat} {W : World} (h : SeeR own w i p q g t0 who0 r x o N1 ow k N4 ds W) (h8 : ow N7 = 8) (hl : w.heap.size ≤ N7) (v : Value) : SeeR own w i p q g t0 who0 r x o N1 ow k N4 ds (W.setCell ⟨N7, 0, none⟩ v) := by
 have m : Mv (fun l => l = 8) ow W ow (W.setCell ⟨N7, 0, none⟩ v) := Mv.set (a := ⟨N7, 0, none⟩) h8 v
 exact ⟨h.st.mv m (by have := h.st.nd.hi; omega) (by decide), h.x1.mv m (by decide), h.n4.mv m (by decide), h.mv.newCell (a := ⟨N7, 0, none⟩) hl v, h.ge, h.g1, h.ne, h.see, h.kl, h.mks.mv m (by decide)⟩
def nAt (W : World) (v : Value) : Nat := match v with
 | .pointer (some ad) => (match W.cell? ad with
  | some (.int _ z) => z.toNat
  | _ => 0)
 | _ => 0
def SeeMu (a : Act) (W : World) : Nat := nAt W (a.tmps.getD 4 undef)
def SeeI (own : Own) (w : World) (i p q g t0 : Nat) (who0 : Int) (r : RS.Rf) (x : Ov) (o : RS.Ou) (N1 : Nat) (a : Act) (W : World) : Prop :=
 ∃ (ow : Own) (k N4 : Nat) (ds : List Nat), SeeR own w i p q g t0 who0 r x o N1 ow k N4 ds W ∧ a.tmps.size = 92 ∧ a.tmps.getD 0 undef = .pointer (some ⟨q, 0, none⟩) ∧ a.tmps.getD 1 undef = .pointer (some ⟨N1, 0, none⟩) ∧ a.tmps.getD 4 undef = .pointer (some ⟨N4, 0, none⟩) ∧ a.defers = ds.map mark
def haveTo (r : RS.Rf) (k j : Nat) : Nat := 1 + ((otTo r.id r.n).take j).countP fun i => decide (k ≤ r.mt i)
theorem haveTo_succ (r : RS.Rf) (k : Nat) {j : Nat} (hj : j < (otTo r.id r.n).length) : haveTo r k (j + 1) = haveTo r k j + if k ≤ r.mt (otAt r.id r.n j) then 1 else 0 := by
 unfold haveTo otAt
 rw [List.take_succ_eq_append_getElem hj, List.countP_append, List.getD_eq_getElem?_getD, List.getElem?_eq_getElem hj]
 simp only [Option.getD_some, List.countP_singleton, decide_eq_true_eq]
 omega
theorem haveTo_all (r : RS.Rf) (k : Nat) : haveTo r k (otTo r.id r.n).length = r.have_ k := by
 unfold haveTo
 rw [List.take_length]
 rfl
theorem haveTo_le (r : RS.Rf) (k j : Nat) : haveTo r k j ≤ 1 + r.n := by
 unfold haveTo
 have h1 := List.countP_le_length (p := fun i => decide (k ≤ r.mt i)) (l := (otTo r.id r.n).take j)
 have h2 : ((otTo r.id r.n).take j).length ≤ (otTo r.id r.n).length := by rw [List.length_take]; omega
 have h3 := otTo_len r.id r.n
 omega
theorem seeAt_low (r : RS.Rf) {k : Nat} (h : k ≤ r.commit) : r.seeAt k = r.commit := by
 cases k with
 | zero => rfl
 | succ k => show (if k + 1 ≤ r.commit then _ else _) = _; rw [if_pos h]
theorem seeAt_term (r : RS.Rf) {k : Nat} (h : r.commit < k) (ht : (RS.termAt r.base r.bt r.es k).1 ≠ r.term) : r.seeAt k = r.commit := by
 cases k with
 | zero => rfl
 | succ k => show (if k + 1 ≤ r.commit then _ else _) = _; rw [if_neg (by omega), if_pos ht]
theorem seeAt_yes (r : RS.Rf) {k : Nat} (h : r.commit < k) (ht : (RS.termAt r.base r.bt r.es k).1 = r.term) (hm : r.n < 2 * r.have_ k) : r.seeAt k = k := by
 cases k with
 | zero => omega
 | succ k => show (if k + 1 ≤ r.commit then _ else _) = _; rw [if_neg (by omega), if_neg (fun h => h ht), if_pos hm]
theorem seeAt_no (r : RS.Rf) {k : Nat} (h : r.commit < k) (ht : (RS.termAt r.base r.bt r.es k).1 = r.term) (hm : ¬ r.n < 2 * r.have_ k) : r.seeAt k = r.seeAt (k - 1) := by
 cases k with
 | zero => omega
 | succ k => show (if k + 1 ≤ r.commit then _ else _) = _; rw [if_neg (by omega), if_neg (fun h => h ht), if_neg hm]; rfl
set_option maxRecDepth 100000 in
set_option maxHeartbeats 4000000 in
theorem see_w (own : Own) (i p q g t0 : Nat) (who0 : Int) (r : RS.Rf) (x : Ov) (o : RS.Ou) (w : World) (h : StAt own w i p q g t0 who0 r x o) (M : Nat) (hb : Nb M r) :
 Calls Try.prog 109 #[.pointer (some ⟨q, 0, none⟩)] w fun e w' => (∃ v, e = .returned v) ∧ Stp own w (fun l => l = i) i p q g t0 who0 r.see x o w' := by
 obtain ⟨w1, hw1⟩ : ∃ w1, w.alloc (.cells #[.pointer (some ⟨q, 0, none⟩)] 159) = w1 := ⟨_, rfl⟩
 have H1 := zh (h.alloc (.cells #[.pointer (some ⟨q, 0, none⟩)] 159))
 have HX1 := zh (Bx.new own w #[.pointer (some ⟨q, 0, none⟩)] 159)
 have HM1 := zh ((Mv.refl (fun l => l = i) own w).alloc7 (.cells #[.pointer (some ⟨q, 0, none⟩)] 159))
 have Hb := zh hb
 have Hn7 := zh hb.n7
 have Hlen := zh (show r.es.length ≤ 1000000 by have := hb.len; have := hb.hM; omega)
 have Hbase := zh (show r.base ≤ 600000 by have := hb.base; have := hb.hM; omega)
 rw [hw1] at H1 HX1 HM1
 have HW := zh hw1
 clear h hw1 hb
 generalize ext own w.heap.size 9 = own1 at *
 have hsz : w.heap.size < w1.heap.size := HX1.out.lt
 obtain ⟨last, hlast⟩ : ∃ n, n = r.base + r.es.length := ⟨_, rfl⟩
 have Hl := zh hlast
 obtain ⟨tip, htip⟩ : ∃ n, n = tipT r.bt r.es := ⟨_, rfl⟩
 have Htp := zh htip
 have hb0 := HX1.out.c0
 have hq0 := H1.out.q0
 have hp5 := H1.out.nd.ctk
 have Htip := zh (H1.out.nd.tk.elim fun v htk => tip_w _ g r.base r.bt v r.es w1 htk Hlen.out)
 rw [← Hl.out, ← Htp.out] at Htip
 clear hlast htip
 refine (callsIn_wide (n := 0)).1 (callsIn_of_wp_marks Try.func109 rfl trivial ?_ rfl)
 refine wpIn_wide.2 ?_
 simp only [Try.ntmps109, List.size_toArray, List.length_cons, List.length_nil, Nat.reduceAdd, Nat.reduceSub, Array.replicate_succ, Array.replicate_zero, List.push_toArray, List.append_toArray, List.nil_append, List.cons_append]
 generalize hQ : bodyPostM Fence.wide 0 Try.prog _ _ = Q
 have HQ := zh hQ
 clear hQ
 go_upto_region 1 with (fail)
 rw [HW.out]
 go_step3
 go_upto_region 2 with (go_at_call 23; refine (Htip.out).mono ?_; rintro e w3 ⟨rfl, hB⟩; have H3 := zh (H1.out.below hB); have HX3 := zh (HX1.out.below hB); have HM3 := zh (HM1.out.below hB); clear hB hq0 hp5 hb0)
 go_wp2
 go_step3
 go_wp2
 have hx3 : w.heap.size < w3.heap.size := HX3.out.lt
 have R0 : SeeR own w i p q g t0 who0 r x o w.heap.size (ext (ext own1 w1.heap.size 9) w3.heap.size 9) last w3.heap.size [] (w3.alloc (.cells #[.int .u64 (last : Int)] 22)) :=
  ⟨H3.out.alloc _, HX3.out.alloc _, Bx.new _ _ _ _, HM3.out.alloc7 _, by omega, Nat.le_refl _, by omega, by rw [Hl.out]; rfl, by rw [Hl.out]; exact Nat.le_refl _, ⟨List.nodup_nil, fun D h => by cases h⟩⟩
 have HR0 := zh R0
 clear R0 H1 HX1 HM1 HW H3 HX3 HM3 Htip
 generalize ext (ext own1 w1.heap.size 9) w3.heap.size 9 = ow0 at *
 have hexit : ∀ (a : Act) (W : World) (ow : Own) (ds : List Nat), a.defers = ds.map mark → StAt ow W i p q g t0 who0 r.see x o → Mv (fun l => l = i) own w ow W → Marks ow w ds W → Exit.inBlock 0 (Exit.noGoto Q) (.exit 0) a W := by
  intro a W ow ds hd hst hmv hmk
  show Exit.noGoto Q .normal a W
  rw [← HQ.out]
  show LeavesInM Fence.wide 0 Try.prog Try.f109 a.tmps _ a.defers .returning W
  rw [hd]
  refine leaves_marks rfl ow w (fun A => StAt ow A i p q g t0 who0 r.see x o ∧ Mv (fun l => l = i) own w ow A) (fun A D ⟨h1, h2⟩ hD h9 => ⟨h1.put h9 _, h2.putNew hD _⟩) (fun A ⟨h1, h2⟩ => ⟨⟨_, rfl⟩, ow, x, h1, Adds.refl x, h2⟩) ds W hmk ⟨hst, hmv⟩
 generalize Exit.inBlock 0 (Exit.noGoto Q) = Qx at *
 have HE := zh hexit
 clear hexit HQ
 refine wp_loop (SeeI own w i p q g t0 who0 r x o w.heap.size) SeeMu ⟨ow0, last, w3.heap.size, [], HR0.out, rfl, rfl, rfl, rfl, rfl⟩ ?_
 clear HR0 hsz hx3
 rintro a wr ⟨ow, k, N4, ds, hR, hs, h0, h1, h4, hd⟩
 obtain ⟨T, rfl⟩ := lit92 hs h0 h1 h4 hd
 clear hs h0 h1 h4 hd
 generalize hN1 : w.heap.size = N1 at hR ⊢
 have HN1 := zh hN1
 clear hN1
 have HR := zh hR
 have hn4 := hR.n4.c0
 have hb0 := hR.x1.c0
 have hq0 := hR.st.q0
 have hp5 := hR.st.nd.ctk
 have hp6 := hR.st.nd.ccommit
 have hp3 := hR.st.nd.cterm
 have hkl := hR.kl
 have hkb : k ≤ 1600000 := by have := Hlen.out; have := Hbase.out; have h : k ≤ r.base + r.es.length := hkl; omega
 have Hkl := zh hkl
 have hmu : ∀ (b : Act) (W : World) (m : Nat), b.tmps.getD 4 undef = .pointer (some ⟨N4, 0, none⟩) → W.cell? ⟨N4, 0, none⟩ = some (.int .u64 (m : Int)) → SeeMu b W = m := fun b W m h1 h2 => by unfold SeeMu nAt; rw [h1]; simp [h2]
 clear hR hkl hmu
 by_cases hk : r.commit < k
 · have e1 : decide ((r.commit : Int) < (k : Int)) = true := by simp; omega
   have e2 : decide (r.commit < k) = true := by simp; omega
   have Hk := zh hk
   clear hk
   go_wp2
   apply RegT.wp_region_T rfl _ 9 rfl (by kernel_rfl) RegT.Same RegT.Same.refl RegT.Same.trans
   ·
    iterate 8
     apply RegT.T_pure rfl rfl rfl
     · intro W hR; have h0 := hR.cell hn4; have h1 := hR.cell hb0; have h2 := hR.cell hq0; have h3 := hR.cell hp6; clear hR; go_simp; rfl
     simp only [List.set_cons_succ, List.set_cons_zero, Nat.reduceAdd]
    apply RegT.T_pure (v := .bool true) rfl rfl rfl
    · intro W hR; clear hR; go_simp
    simp only [List.set_cons_succ, List.set_cons_zero, Nat.reduceAdd]
    refine RegT.T_end rfl (fun wa hS hf0 => ?_)
    have HS := zh (RegT.Same.trans _ _ _ (same_drew wr) hS)
    have HRa := zh (HR.out.move (Mv.same0 (L := fun _ => False) HS.out))
    clear hS hf0 hn4 hb0 hq0 hp5 hp6 hp3 HS e1 e2
    have hn4 := HRa.out.n4.c0
    have hb0 := HRa.out.x1.c0
    have hq0 := HRa.out.st.q0
    have hp5 := HRa.out.st.nd.ctk
    obtain ⟨ta, hta⟩ : ∃ y, termAt r.base r.bt r.es k = y := ⟨_, rfl⟩
    have Htm := zh (fun (W : World) (hR : RegT.Grow wa.drew W) => HRa.out.st.nd.tk.elim fun v htk => termat_w _ g r.base r.bt v r.es k W ((htk.keeps (Keeps.refl wa).drew).keeps hR.block) Hlen.out (by omega))
    rw [hta] at Htm
    have Hta := zh hta
    clear hta
    obtain ⟨ta1, ta2⟩ := ta
    go_wp2
    apply RegT.wp_region_T rfl _ 14 rfl (by kernel_rfl) RegT.Grow RegT.Grow.refl RegT.Grow.trans
    ·
     iterate 8
      apply RegT.T_pure rfl rfl rfl
      · intro W hR; have h0 := Keeps.cell hR.block hb0; have h1 := Keeps.cell hR.block hq0; have h2 := Keeps.cell hR.block hp5; have h3 := Keeps.cell hR.block hn4; clear hR; go_simp; rfl
      simp only [List.set_cons_succ, List.set_cons_zero, Nat.reduceAdd]
     apply RegT.T_const rfl rfl rfl (.tuple #[.int .u64 (ta1 : Int), .bool ta2]) (fun _ _ h => h)
     · intro W hR hf
       have Hc := zh (Htm.out W hR)
       clear hR hf
       go_simp
       exact RegT.OpOK_enter Hc.out (fun e w' h => ⟨_, h.1, rfl, h.2⟩)
     simp only [List.set_cons_succ, List.set_cons_zero, Nat.reduceAdd]
     iterate 5
      apply RegT.T_pure rfl rfl rfl
      · intro W hR; clear hR; go_simp; rfl
      simp only [List.set_cons_succ, List.set_cons_zero, Nat.reduceAdd]
     refine RegT.T_end rfl (fun wb hG hf0 => ?_)
     have hB : Below wa.heap.size wa wb := (Below.refl wa.heap.size wa).drew.trans hG
     have HRb := zh (HRa.out.move (Mv.of_below hB 9))
     clear hG hf0 hB hn4 hb0 hq0 hp5 HRa Htm
     generalize ext ow wa.heap.size 9 = owb at *
     have hn4 := HRb.out.n4.c0
     have hb0 := HRb.out.x1.c0
     have hq0 := HRb.out.st.q0
     have hp3 := HRb.out.st.nd.cterm
     by_cases ht : ta1 = r.term
     · have e1 : ((ta1 : Int) != (r.term : Int)) = false := by simp; omega
       have e2 : (ta1 != r.term) = false := by simp; omega
       have Ht := zh ht
       clear ht
       go_upto_region 8 with (fail)
       have HRc := zh (HRb.out.move (Mv.alloc owb wb (.cells #[.int .i64 1] 3) 8))
       have h7 := heap_alloc_new wb (.cells #[.int .i64 1] 3)
       have h78 : ext owb wb.heap.size 8 wb.heap.size = 8 := ext_ge (Nat.le_refl _)
       have hbs : w.heap.size ≤ wb.heap.size := HRb.out.mv.t.size
       clear hn4 hb0 hq0 hp3 e1 e2
       generalize ext owb wb.heap.size 8 = owc at *
       generalize hN7 : wb.heap.size = N7 at *
       generalize wb.alloc (.cells #[.int .i64 1] 3) = wc at *
       clear hN7 HRb
       have hb0 := HRc.out.x1.c0
       have hq0 := HRc.out.st.q0
       go_wp2_with (go_at_call 129; refine (others_w p wc).mono ?_; rintro e wd ⟨rfl, hwd⟩; have HWd := zh hwd; clear hwd)
       have hO : Bx (ext owc wc.heap.size 9) wd wc.heap.size #[.pointer (some ⟨p, 0, none⟩)] 86 := by rw [HWd.out]; exact Bx.new owc wc _ 86
       have HRd := zh (show SeeR own w i p q g t0 who0 r x o N1 (ext owc wc.heap.size 9) k N4 ds wd by rw [HWd.out]; exact HRc.out.move (Mv.alloc owc wc _ 9))
       have h7l : N7 < wc.heap.size := (Array.getElem?_eq_some_iff.1 h7).1
       have h7d : wd.heap[N7]? = some (.cells #[.int .i64 1] 3) := by rw [HWd.out]; exact (Below.heap_alloc wc _ _ h7l).trans h7
       have h7e : ext owc wc.heap.size 9 N7 = 8 := (ext_lt h7l).trans h78
       have hsd : wd.heap.size = wc.heap.size + 1 := by rw [HWd.out]; simp
       have HO := zh hO
       have H7 := zh (And.intro h7d h7e)
       clear hO h7 h78 h7d h7e hb0 hq0 HRc HWd
       generalize ext owc wc.heap.size 9 = owd at *
       have hds : ∀ D, D ∈ ds → D < wd.heap.size := fun D hD => (Array.getElem?_eq_some_iff.1 (HRd.out.mks.at_ D hD).2.2).1
       have Hds := zh hds
       have hN1l := HRd.out.x1.lt
       have hN4l := HRd.out.n4.lt
       have hwd : w.heap.size ≤ wd.heap.size := by omega
       clear hds
       refine wpIn_wide.1 (others_loop (id := r.id) Hn7.out ⟨HO.out.c0, HRd.out.st.nd.cn, HRd.out.st.nd.cid⟩ HO.out.lab HO.out.lt HRd.out.st.nd.lt rfl rfl
        (fun j ow A => SeeR own w i p q g t0 who0 r x o N1 ow k N4 ds A ∧ A.heap[N7]? = some (.cells #[.int .i64 (haveTo r k j : Int)] 3) ∧ ow N7 = 8)
        ?hp0 ?ho0 ?h00 ?a10 ?as0 ?bo0 ?do0)
       case as0 =>
        intro l k W K hK
        gi_wp2
        exact hK
       case hp0 =>
        rintro j ow A l o' ⟨h1, h2, h3⟩ hl9 hll
        refine ⟨h1.put hl9 (by omega) (by omega) (by omega) (fun D hD => by have := Hds.out D hD; omega) o', (World.putObj_heap_other (by omega)).trans h2, h3⟩
       case ho0 =>
        rintro j ow A ⟨h1, h2, h3⟩
        exact ⟨h1.st.nd.cn, h1.st.nd.cid⟩
       case h00 =>
        intro W hB
        exact ⟨HRd.out.move (Mv.of_below hB 9), (hB.block _ (by omega)).trans H7.out.1, (ext_lt (by omega)).trans H7.out.2⟩
       case bo0 =>
        rintro l j ow W ⟨h1, h2, h3⟩ hj hm
        have Hs := zh (haveTo_succ r k hj)
        have hol := otTo_len r.id r.n
        have hfm := otTo_mem hj
        have hf7 : otAt r.id r.n j < 7 := by have := Hn7.out; omega
        have hhv := haveTo_le r k j
        have hn4 := h1.n4.c0
        have hb0 := h1.x1.c0
        have hq0 := h1.st.q0
        have hmt := h1.st.nd.cmt hf7
        have hn7 := one_cell h2
        have hfz := one_frozen h2
        have H1 := zh h1
        have H2 := zh h2
        have H3 := zh h3
        have hh9 : haveTo r k j ≤ 8 := by have := Hn7.out; omega
        have hf0 : (0 : Int) ≤ (otAt r.id r.n j : Int) := by omega
        have hf7i : (otAt r.id r.n j : Int) < 7 := by omega
        clear hj hm hol hfm hhv h1 h2 h3
        obtain ⟨hv, hhv⟩ : ∃ y, haveTo r k j = y := ⟨_, rfl⟩
        rw [hhv] at hn7 H2 hh9 Hs
        clear hhv
        generalize otAt r.id r.n j = f at *
        by_cases hc : k ≤ r.mt f
        · have e1 : decide ((k : Int) ≤ (r.mt f : Int)) = true := by simp; omega
          have e2 : decide (k ≤ r.mt f) = true := by simp; omega
          have Hc := zh hc
          clear hc
          gi_wp2
          apply RegT.wpIn_region_T rfl _ 12 rfl (by kernel_rfl) (by kernel_rfl) (by rintro ⟨a, w, h⟩; exact h) RegT.Same RegT.Same.refl RegT.Same.trans
          ·
           iterate 11
            apply RegT.T_pure rfl rfl rfl
            · intro W hR; have h0 := hR.cell hb0; have h1 := hR.cell hq0; have h2 := hR.cell hmt; have h3 := hR.cell hn4; clear hR; go_simp; rfl
            simp only [List.set_cons_succ, List.set_cons_zero, Nat.reduceAdd]
           apply RegT.T_pure (v := .bool true) rfl rfl rfl
           · intro W hR; clear hR; go_simp
           simp only [List.set_cons_succ, List.set_cons_zero, Nat.reduceAdd]
           refine RegT.T_end rfl (fun W1 hS hf0 => ?_)
           have hS1 := RegT.Same.trans _ _ _ (same_drew W) hS
           have hn7 := hS1.cell hn7
           have hfz := hS1.frozen hfz
           have HS := zh hS1
           clear hS hf0 hS1 hn4 hb0 hq0 hmt
           gi_wp2
           refine ⟨ow, ⟨(H1.out.move (Mv.same0 (L := fun _ => False) HS.out)).set8 H3.out hbs _, ?_, H3.out⟩, (Mv.same0 (L := fun l => l ≠ 9) HS.out).trans (Mv.set (L := fun l => l ≠ 9) (a := ⟨N7, 0, none⟩) (by show ow N7 ≠ 9; rw [H3.out]; decide) _)⟩
           rw [heap_setCell_same (by rw [HS.out.heap]; exact H2.out), Hs.out, if_pos Hc.out]
           rfl
          · rfl
          · kernel_rfl
        · have e1 : decide ((k : Int) ≤ (r.mt f : Int)) = false := by simp; omega
          have e2 : decide (k ≤ r.mt f) = false := by simp; omega
          have Hc := zh hc
          clear hc
          gi_wp2
          apply RegT.wpIn_region_T rfl _ 12 rfl (by kernel_rfl) (by kernel_rfl) (by rintro ⟨a, w, h⟩; exact h) RegT.Same RegT.Same.refl RegT.Same.trans
          ·
           iterate 11
            apply RegT.T_pure rfl rfl rfl
            · intro W hR; have h0 := hR.cell hb0; have h1 := hR.cell hq0; have h2 := hR.cell hmt; have h3 := hR.cell hn4; clear hR; go_simp; rfl
            simp only [List.set_cons_succ, List.set_cons_zero, Nat.reduceAdd]
           apply RegT.T_pure (v := .bool false) rfl rfl rfl
           · intro W hR; clear hR; go_simp
           simp only [List.set_cons_succ, List.set_cons_zero, Nat.reduceAdd]
           refine RegT.T_end rfl (fun W1 hS hf0 => ?_)
           have hS1 := RegT.Same.trans _ _ _ (same_drew W) hS
           have HS := zh hS1
           clear hS hf0 hS1 hn4 hb0 hq0 hmt hn7 hfz
           gi_wp2
           refine ⟨ow, ⟨H1.out.move (Mv.same0 (L := fun _ => False) HS.out), ?_, H3.out⟩, Mv.same0 HS.out⟩
           rw [HS.out.heap, H2.out, Hs.out, if_neg Hc.out]
           rfl
          · rfl
          · kernel_rfl
       case do0 =>
        rintro W ow ⟨h1, h2, h3⟩ hm hl9 hD
        rw [haveTo_all] at h2
        have HR1 := zh h1
        have hn7 := one_cell h2
        have hn4 := h1.n4.c0
        have hb0 := h1.x1.c0
        have hq0 := h1.st.q0
        have hp0 := h1.st.nd.cn
        have hp6 := h1.st.nd.ccommit
        have hMk := h1.mks.cons (B := wd.heap.size) (by omega) hl9 hD (fun D hD => by have := Hds.out D hD; omega)
        have HMk := zh hMk
        have hhb : r.have_ k ≤ 8 := by have h := haveTo_le r k (otTo r.id r.n).length; rw [haveTo_all] at h; have := Hn7.out; omega
        obtain ⟨hv, hhv⟩ : ∃ y, r.have_ k = y := ⟨_, rfl⟩
        rw [hhv] at hn7 hhb
        have Hv := zh hhv
        obtain ⟨h2v, hh2⟩ : ∃ y, y = 2 * hv := ⟨_, rfl⟩
        have e0 : IntKind.i64.wrap (h2v : Int) = (h2v : Int) := IntWalk.i64_in _ (by omega)
        have e0' : (2 * (hv : Int)) = (h2v : Int) := by omega
        have Hh2 := zh hh2
        clear h1 h2 h3 hm hl9 hD hMk hhv hh2
        by_cases hmj : r.n < h2v
        · have e1 : decide ((r.n : Int) < (h2v : Int)) = true := by simp; omega
          have e2 : decide (r.n < h2v) = true := by simp; omega
          have Hs : Hid (r.seeAt r.last = k) := zh (by
           have h := HR1.out.see
           rw [seeAt_yes r Hk.out (by rw [termAt_rs, Hta.out]; exact Ht.out) (by rw [Hv.out, ← Hh2.out]; exact hmj)] at h
           exact h.symm)
          clear hmj
          go_wp2
          apply RegT.wp_region_T rfl _ 11 rfl (by kernel_rfl) RegT.Same RegT.Same.refl RegT.Same.trans
          ·
           apply RegT.T_pure rfl rfl rfl
           · intro W hR
             have hc := hR.cell hn7
             clear hR
             go_simp; rfl
           simp only [List.set_cons_succ, List.set_cons_zero, Nat.reduceAdd]
           apply RegT.T_pure (v := .int .i64 (h2v : Int)) rfl rfl rfl
           · intro W hR; clear hR; go_simp
           simp only [List.set_cons_succ, List.set_cons_zero, Nat.reduceAdd]
           iterate 8
            apply RegT.T_pure rfl rfl rfl
            · intro W hR; have h0 := hR.cell hb0; have h1 := hR.cell hq0; have h2 := hR.cell hp0; clear hR; go_simp; rfl
            simp only [List.set_cons_succ, List.set_cons_zero, Nat.reduceAdd]
           apply RegT.T_pure (v := .bool true) rfl rfl rfl
           · intro W hR; clear hR; go_simp
           simp only [List.set_cons_succ, List.set_cons_zero, Nat.reduceAdd]
           refine RegT.T_end rfl (fun W1 hS hf0 => ?_)
           have hS1 := RegT.Same.trans _ _ _ (same_drew W) hS
           have HR2 := zh (HR1.out.move (Mv.same0 (L := fun _ => False) hS1))
           have HMk2 := zh (HMk.out.mv (Mv.same0 (L := fun _ => False) hS1) id)
           clear hS hf0 hS1 hn4 hb0 hq0 hp0 hp6 hn7 HR1 HMk
           have hn4 := HR2.out.n4.c0
           have hb0 := HR2.out.x1.c0
           have hq0 := HR2.out.st.q0
           go_wp2
           apply RegT.wp_region_T rfl _ 7 rfl (by kernel_rfl) RegT.Same RegT.Same.refl RegT.Same.trans
           ·
            iterate 7
             apply RegT.T_pure rfl rfl rfl
             · intro W hR; have h0 := hR.cell hb0; have h1 := hR.cell hq0; have h2 := hR.cell hn4; clear hR; go_simp; rfl
             simp only [List.set_cons_succ, List.set_cons_zero, Nat.reduceAdd]
            refine RegT.T_tail (fun W3 hS hf0 => ?_)
            have hS1 := RegT.Same.trans _ _ _ (same_drew W1) hS
            have HR3 := zh (HR2.out.move (Mv.same0 (L := fun _ => False) hS1))
            have HMk3 := zh (HMk2.out.mv (Mv.same0 (L := fun _ => False) hS1) id)
            clear hS hf0 hS1 hn4 hb0 hq0 HR2 HMk2
            have hp6 := HR3.out.st.nd.ccommit
            have hf6 := HR3.out.st.nd.frozen 6
            have HF := zh (show StAt ow (W3.setCell ⟨p, 6, none⟩ (.int .u64 (k : Int))) i p q g t0 who0 r.see x o from HR3.out.st.setp 6 (.int .u64 (k : Int)) r.see (by unfold RS.Rf.see; rw [Hs.out]; rfl) rfl rfl rfl)
            have HFm := zh (Mv.set (L := fun l => l = i) (own := ow) (w := W3) (a := ⟨p, 6, none⟩) HR3.out.st.nd.op (.int .u64 (k : Int)))
            have hi7 := HR3.out.st.nd.hi
            simp only [List.drop_succ_cons, List.drop_zero]
            go_wp2
            exact HE.out _ _ ow (wd.heap.size :: ds) rfl HF.out (HR3.out.mv.trans HFm.out) (HMk3.out.mv HFm.out (by omega))
           · rfl
           · kernel_rfl
          · rfl
          · kernel_rfl
        · have e1 : decide ((r.n : Int) < (h2v : Int)) = false := by simp; omega
          have e2 : decide (r.n < h2v) = false := by simp; omega
          obtain ⟨k1, hk1⟩ : ∃ y, y = k - 1 := ⟨_, rfl⟩
          have hkc := Hk.out
          have e3 : IntKind.u64.wrap ((k : Int) - 1) = (k1 : Int) := by rw [IntWalk.u64_in _ (by omega)]; omega
          have Hs : Hid (r.seeAt k1 = r.seeAt r.last) := zh (by
           have h := HR1.out.see
           rw [seeAt_no r Hk.out (by rw [termAt_rs, Hta.out]; exact Ht.out) (by rw [Hv.out, ← Hh2.out]; exact hmj)] at h
           rw [hk1]; exact h)
          have Hk1 := zh (show k1 < k by omega)
          clear hmj hk1 hkc
          go_wp2
          apply RegT.wp_region_T rfl _ 11 rfl (by kernel_rfl) RegT.Same RegT.Same.refl RegT.Same.trans
          ·
           apply RegT.T_pure rfl rfl rfl
           · intro W hR
             have hc := hR.cell hn7
             clear hR
             go_simp; rfl
           simp only [List.set_cons_succ, List.set_cons_zero, Nat.reduceAdd]
           apply RegT.T_pure (v := .int .i64 (h2v : Int)) rfl rfl rfl
           · intro W hR; clear hR; go_simp
           simp only [List.set_cons_succ, List.set_cons_zero, Nat.reduceAdd]
           iterate 8
            apply RegT.T_pure rfl rfl rfl
            · intro W hR; have h0 := hR.cell hb0; have h1 := hR.cell hq0; have h2 := hR.cell hp0; clear hR; go_simp; rfl
            simp only [List.set_cons_succ, List.set_cons_zero, Nat.reduceAdd]
           apply RegT.T_pure (v := .bool false) rfl rfl rfl
           · intro W hR; clear hR; go_simp
           simp only [List.set_cons_succ, List.set_cons_zero, Nat.reduceAdd]
           refine RegT.T_end rfl (fun W1 hS hf0 => ?_)
           have hS1 := RegT.Same.trans _ _ _ (same_drew W) hS
           have HR2 := zh (HR1.out.move (Mv.same0 (L := fun _ => False) hS1))
           have HMk2 := zh (HMk.out.mv (Mv.same0 (L := fun _ => False) hS1) id)
           clear hS hf0 hS1 hn4 hb0 hq0 hp0 hp6 hn7 HR1 HMk
           have hn4 := HR2.out.n4.c0
           go_wp2
           have hnew := Bx.new ow W1 #[.int .u64 (k1 : Int)] 22
           have hx1l := HR2.out.x1.lt
           have hgs := HR2.out.mv.t.size
           have hk1 := Hk1.out
           have hkl := Hkl.out
           refine ⟨⟨ext ow W1.heap.size 9, k1, W1.heap.size, wd.heap.size :: ds, ⟨HR2.out.st.alloc _, HR2.out.x1.alloc _, hnew, HR2.out.mv.alloc7 _, hgs, HR2.out.g1, by omega, Hs.out, by omega, HMk2.out.mv (Mv.alloc ow W1 _ 9) id⟩, rfl, rfl, rfl, rfl, rfl⟩, ?_⟩
           have c1 := hnew.c0
           have c2 := HR.out.n4.c0
           show nAt _ (.pointer (some ⟨W1.heap.size, 0, none⟩)) < nAt _ (.pointer (some ⟨N4, 0, none⟩))
           simp only [nAt, c1, c2, Int.toNat_natCast]
           exact hk1
          · rfl
          · kernel_rfl
     · have e1 : ((ta1 : Int) != (r.term : Int)) = true := by simp; omega
       have e2 : (ta1 != r.term) = true := by simp; omega
       have Hs : Hid (r.see = r) := zh (by have := HRb.out.see; rw [seeAt_term r Hk.out (by rw [termAt_rs, Hta.out]; exact ht)] at this; unfold RS.Rf.see; rw [← this])
       clear ht
       go_wp2
       exact HE.out _ _ owb ds rfl (by rw [Hs.out]; exact HRb.out.st) HRb.out.mv HRb.out.mks
    · rfl
    · kernel_rfl
   · rfl
   · kernel_rfl
 · have e1 : decide ((r.commit : Int) < (k : Int)) = false := by simp; omega
   have e2 : decide (r.commit < k) = false := by simp; omega
   have Hs : Hid (r.see = r) := zh (by have := HR.out.see; rw [seeAt_low r (by omega)] at this; unfold RS.Rf.see; rw [← this])
   clear hk
   go_wp2
   apply RegT.wp_region_T rfl _ 9 rfl (by kernel_rfl) RegT.Same RegT.Same.refl RegT.Same.trans
   ·
    iterate 8
     apply RegT.T_pure rfl rfl rfl
     · intro W hR; have h0 := hR.cell hn4; have h1 := hR.cell hb0; have h2 := hR.cell hq0; have h3 := hR.cell hp6; clear hR; go_simp; rfl
     simp only [List.set_cons_succ, List.set_cons_zero, Nat.reduceAdd]
    apply RegT.T_pure (v := .bool false) rfl rfl rfl
    · intro W hR; clear hR; go_simp
    simp only [List.set_cons_succ, List.set_cons_zero, Nat.reduceAdd]
    refine RegT.T_end rfl (fun wa hS hf0 => ?_)
    have HRa := zh (HR.out.move (Mv.same0 (L := fun _ => False) (RegT.Same.trans _ _ _ (same_drew wr) hS)))
    clear hS hf0 hn4 hb0 hq0 hp5 hp6 hp3 HR
    go_wp2
    exact HE.out _ _ ow ds rfl (by rw [Hs.out]; exact HRa.out.st) HRa.out.mv HRa.out.mks
   · rfl
   · kernel_rfl
end
end Go.Proofs.Yteellfgiejnigaa
