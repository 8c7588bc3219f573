/- RaftSafe: G15. -/
import Derived.Test.YteellfgiejnigaaQtA00
import Derived.Test.YteellfgiejnigaaQtA20
import Derived.Deep.RegionHeld3
namespace Go.Proofs.Yteellfgiejnigaa
open Go.ChangeShapes Go.WideShapes Go.ChangeAt Go.RowKit
set_option linter.unusedVariables false
attribute [local go_sem] Oper.semAt_some
theorem cell_off {w : World} {b j k : Nat} {v : Value} {u : Option Value} (hne : j ≠ k) (h : w.cell? ⟨b, j, none⟩ = u) : (w.setCell ⟨b, k, none⟩ v).drew.cell? ⟨b, j, none⟩ = u := by
 show (w.setCell ⟨b, k, none⟩ v).cell? ⟨b, j, none⟩ = u
 rw [← h]
 simp only [World.cell?, World.setCell, Array.getElem?_modify, if_true]
 cases w.heap[b]? with
 | none => rfl
 | some ob => cases ob <;> simp [Ne.symm hne]
section
variable {own own' : Own} {w w' : World} {i p q g t0 N : Nat} {who0 : Int} {r : RS.Rf} {x : Ov} {o : RS.Ou} {M : Nat}
def leadTo (r : RS.Rf) (k : Nat) : RS.Rf := { r with role := 3, leader := (r.id : Int), next := fun j => if j ∈ (otTo r.id r.n).take k then r.last + 1 else r.next j, mt := fun j => if j ∈ (otTo r.id r.n).take k then 0 else r.mt j }
theorem leadTo_zero (r : RS.Rf) : leadTo r 0 = { r with role := 3, leader := (r.id : Int) } := by
 unfold leadTo
 simp
theorem mem_take_succ {id n k : Nat} (hk : k < (otTo id n).length) (j : Nat) : j ∈ (otTo id n).take (k + 1) ↔ j ∈ (otTo id n).take k ∨ j = otAt id n k := by
 unfold otAt
 rw [List.take_succ_eq_append_getElem hk, List.mem_append, List.mem_singleton, List.getD_eq_getElem?_getD, List.getElem?_eq_getElem hk]
 rfl
theorem leadTo_succ (r : RS.Rf) {k : Nat} (hk : k < (otTo r.id r.n).length) :
 ({ ({ leadTo r k with next := fun j => if j = otAt r.id r.n k then r.last + 1 else (leadTo r k).next j } : RS.Rf) with mt := fun j => if j = otAt r.id r.n k then 0 else ({ leadTo r k with next := fun j => if j = otAt r.id r.n k then r.last + 1 else (leadTo r k).next j } : RS.Rf).mt j } : RS.Rf) = leadTo r (k + 1) := by
 have h := mem_take_succ hk
 unfold leadTo
 simp only [h]
 congr 1
 iterate 2
  · funext j
    by_cases h1 : j = otAt r.id r.n k <;> by_cases h2 : j ∈ (otTo r.id r.n).take k <;> simp [h1, h2]
theorem leadTo_all (r : RS.Rf) : leadTo r (otTo r.id r.n).length = r.lead0 := by
 have h : ∀ j, j ∈ otTo r.id r.n ↔ (j < r.n ∧ j ≠ r.id) := fun j => by unfold otTo; simp
 unfold leadTo RS.Rf.lead0
 rw [List.take_length]
 simp only [h]
theorem Nb.lead0 (h : Nb M r) (hM : M ≤ 200000) : Nb (2 * M + 2) r.lead0 := by
 refine ⟨by omega, h.n7, h.id, h.T1, h.T2, by have := h.term; show r.term ≤ _; omega, by have := h.base; show r.base ≤ _; omega, by have := h.bt; show r.bt ≤ _; omega, by have := h.len; show r.es.length ≤ _; omega, fun e he => ⟨by have := (h.es e he).1; omega, (h.es e he).2⟩, by have := h.commit; show r.commit ≤ _; omega, by show (3 : Nat) ≤ 3; decide, by have := h.id; have := h.n7; show -1 ≤ (r.id : Int) ∧ (r.id : Int) ≤ 6; omega, h.left, h.quiet, h.beat, h.who, by have := h.round; show r.round ≤ _; omega, fun q => ?_, fun q => ?_⟩
 · have h1 := h.next q; have h2 := h.base; have h3 := h.len
   unfold RS.Rf.lead0 RS.Rf.last
   dsimp only
   split <;> omega
 · have h1 := h.mt q
   unfold RS.Rf.lead0
   dsimp only
   split <;> omega
theorem Nb.add (h : Nb M r) (hM : M + 1 ≤ 600000) {d : List UInt8} (hd : d.length ≤ 3000) : Nb (M + 1) (r.add d) :=
 ⟨hM, h.n7, h.id, h.T1, h.T2, Nat.le_succ_of_le h.term, Nat.le_succ_of_le h.base, Nat.le_succ_of_le h.bt, by show (r.es ++ [(r.term, d)]).length ≤ M + 1; have := h.len; simp; omega, fun e he => by
  rcases List.mem_append.1 he with he | he
  · exact ⟨Nat.le_succ_of_le (h.es e he).1, (h.es e he).2⟩
  · rw [List.mem_singleton] at he; subst he; exact ⟨Nat.le_succ_of_le h.term, hd⟩, Nat.le_succ_of_le h.commit, h.role, h.leader, h.left, h.quiet, h.beat, h.who, Nat.le_succ_of_le h.round, fun q => Nat.le_succ_of_le (h.next q), fun q => Nat.le_succ_of_le (h.mt q)⟩
theorem Nb.pulse (h : Nb M r) : Nb M r.pulse :=
 ⟨h.hM, h.n7, h.id, h.T1, h.T2, h.term, h.base, h.bt, h.len, h.es, h.commit, h.role, h.leader, h.left, h.quiet, by show -1 ≤ max (1 : Int) ((r.T / 4 : Nat) : Int) ∧ max (1 : Int) ((r.T / 4 : Nat) : Int) ≤ 50; have := h.T2; omega, h.who, h.round, h.next, h.mt⟩
theorem seeAt_le (r : RS.Rf) : ∀ k, r.seeAt k ≤ max r.commit k := by
 intro k
 induction k with
 | zero => show r.commit ≤ _; omega
 | succ k ih =>
  show (if k + 1 ≤ r.commit then r.commit else _) ≤ _
  split
  · omega
  · split
    · omega
    · split
      · omega
      · omega
theorem Nb.see (h : Nb M r) (hM : r.last ≤ M) : Nb M r.see :=
 ⟨h.hM, h.n7, h.id, h.T1, h.T2, h.term, h.base, h.bt, h.len, h.es, by show r.seeAt r.last ≤ M; have h1 := seeAt_le r r.last; have h2 := h.commit; omega, h.role, h.leader, h.left, h.quiet, h.beat, h.who, h.round, h.next, h.mt⟩
theorem Nb.mono {M' : Nat} (h : Nb M r) (hM : M ≤ M') (h6 : M' ≤ 600000) : Nb M' r :=
 ⟨h6, h.n7, h.id, h.T1, h.T2, Nat.le_trans h.term hM, Nat.le_trans h.base hM, Nat.le_trans h.bt hM, Nat.le_trans h.len hM, fun e he => ⟨Nat.le_trans (h.es e he).1 hM, (h.es e he).2⟩, Nat.le_trans h.commit hM, h.role, h.leader, h.left, h.quiet, h.beat, h.who, Nat.le_trans h.round hM, fun q => Nat.le_trans (h.next q) hM, fun q => Nat.le_trans (h.mt q) hM⟩
set_option maxRecDepth 100000 in
set_option maxHeartbeats 2000000 in
theorem lead_w (own : Own) (i p q g t0 : Nat) (who0 : Int) (r : RS.Rf) (x : Ov) (o : RS.Ou) (w : World) (h : StAt own w i p q g t0 who0 r x o) (M : Nat) (hb : Nb M r) (hM : M ≤ 200000) (hap : x.ap = none) (han : x.an = 0) (hac : x.ac = 0) (ho : o.add = []) (hs : o.send.length ≤ 100) (hn : o.need.length ≤ 100) :
 Calls Try.prog 116 #[.pointer (some ⟨q, 0, none⟩)] w fun e w' => (∃ v, e = .returned v) ∧ ∃ own' x', StAt own' w' i p q g t0 who0 (r.lead o).1 x' (r.lead o).2 ∧ x'.an = 1 ∧ Mv (fun l => l = i ∨ l = 7) own w own' w' := by
 obtain ⟨w1, hw1⟩ : ∃ w1, w.alloc (.cells #[.pointer (some ⟨q, 0, none⟩)] 159) = w1 := ⟨_, rfl⟩
 have H1 := zh (h.alloc (.cells #[.pointer (some ⟨q, 0, none⟩)] 159))
 have HX1 := zh (Bx.new own w #[.pointer (some ⟨q, 0, none⟩)] 159)
 have HM1 := zh ((Mv.refl (fun l => l = i ∨ l = 7) own w).alloc7 (.cells #[.pointer (some ⟨q, 0, none⟩)] 159))
 have Hb := zh hb
 have Hn7 := zh hb.n7
 have Hx := zh (And.intro hap (And.intro han (And.intro hac ho)))
 rw [hw1] at H1 HX1 HM1
 have HW := zh hw1
 clear h hw1 hb hap han hac ho
 generalize ext own w.heap.size 9 = own1 at *
 have hsz : w.heap.size < w1.heap.size := HX1.out.lt
 have hb0 := HX1.out.c0
 have hq0 := H1.out.q0
 have hp1 := H1.out.nd.cid
 have hp7 := H1.out.nd.crole
 have hp8 := H1.out.nd.cleader
 have hf7 := H1.out.nd.frozen 7
 have hf8 := H1.out.nd.frozen 8
 have hne := H1.out.ne
 have hbn := H1.out.bxnp HX1.out
 refine (callsIn_wide (n := 0)).1 (callsIn_of_wp_marks Try.func116 rfl trivial ?_ rfl)
 refine wpIn_wide.2 ?_
 simp only [Try.ntmps116, List.size_toArray, List.length_cons, List.length_nil, Nat.reduceAdd, Nat.reduceSub, Array.replicate_succ, Array.replicate_zero, List.push_toArray, List.append_toArray, List.nil_append, List.cons_append]
 generalize hQ : bodyPostM Fence.wide 0 Try.prog _ _ = Q
 have HQ := zh hQ
 clear hQ
 go_upto_region 1 with (fail)
 rw [HW.out]
 have k1 : (w1.setCell ⟨p, 7, none⟩ (.int .u8 3)).drew.cell? ⟨p, 1, none⟩ = some (.int .i64 (r.id : Int)) := cell_off (by decide) hp1
 have k2 : ((w1.setCell ⟨p, 7, none⟩ (.int .u8 3)).setCell ⟨p, 8, none⟩ (.int .i64 (r.id : Int))).drew.cell? ⟨p, 1, none⟩ = some (.int .i64 (r.id : Int)) := cell_off (by decide) k1
 go_region_held3 (fun w' => w'.cell? ⟨w.heap.size, 0, none⟩ = some (.pointer (some ⟨q, 0, none⟩)) ∧ w'.cell? ⟨q, 0, none⟩ = some (.pointer (some ⟨p, 0, none⟩)) ∧ w'.cell? ⟨p, 1, none⟩ = some (.int .i64 (r.id : Int))) (go_keep) (fail)
 rename_i hHeld
 clear hHeld
 have h2 : StAt own1 (((w1.setCell ⟨p, 7, none⟩ (.int .u8 3)).setCell ⟨p, 8, none⟩ (.int .i64 (r.id : Int))).drew) i p q g t0 who0 { r with role := 3, leader := (r.id : Int) } x o := ((H1.out.setp 7 (.int .u8 3) { r with role := 3 } rfl rfl rfl rfl).setp 8 (.int .i64 (r.id : Int)) { r with role := 3, leader := (r.id : Int) } rfl rfl rfl rfl).drew
 have hm2 : Mv (fun l => l = i) own1 w1 own1 (((w1.setCell ⟨p, 7, none⟩ (.int .u8 3)).setCell ⟨p, 8, none⟩ (.int .i64 (r.id : Int))).drew) := ((Mv.set (L := fun l => l = i) (a := ⟨p, 7, none⟩) H1.out.nd.op _).trans (Mv.set (L := fun l => l = i) (a := ⟨p, 8, none⟩) H1.out.nd.op _)).trans (Mv.drew _ _ _)
 have H2 := zh h2
 have HX2 := zh (HX1.out.mv hm2 (by have := H1.out.nd.hi; omega))
 have HM2 := zh (HM1.out.trans (hm2.mono fun l e => .inl e))
 clear h2 hm2 k1 k2 hb0 hq0 hp1 hp7 hp8 hf7 hf8
 generalize ((w1.setCell ⟨p, 7, none⟩ (.int .u8 3)).setCell ⟨p, 8, none⟩ (.int .i64 (r.id : Int))).drew = w2 at *
 have Hlen := zh (show r.es.length ≤ 1000000 by have := Hb.out.len; have := Hb.out.hM; omega)
 obtain ⟨last, hlast⟩ : ∃ n, n = r.base + r.es.length := ⟨_, rfl⟩
 have Hl := zh hlast
 obtain ⟨tip, htip⟩ : ∃ n, n = tipT r.bt r.es := ⟨_, rfl⟩
 have Htp := zh htip
 obtain ⟨last1, hlast1⟩ : ∃ n, n = last + 1 := ⟨_, rfl⟩
 have e1 : IntKind.u64.wrap ((last : Int) + 1) = (last1 : Int) := by have := Hb.out.base; have := Hb.out.len; have := Hb.out.hM; rw [IntWalk.u64_in _ (by omega)]; omega
 have Hl1 := zh (show last1 = r.last + 1 by rw [hlast1, hlast]; rfl)
 have Htip := zh (H2.out.nd.tk.elim fun v htk => tip_w _ g r.base r.bt v r.es w2 htk Hlen.out)
 rw [← Hl.out, ← Htp.out] at Htip
 clear hlast htip hlast1
 have hb0 := HX2.out.c0
 have hq0 := H2.out.q0
 have hp5 := H2.out.nd.ctk
 clear HX1 HM1 H1 HW
 go_upto_region 3 with (go_at_call 23; refine (Htip.out).mono ?_; rintro e w3 ⟨rfl, hB⟩; have H3 := zh (H2.out.below hB); have HX3 := zh (HX2.out.below hB); have HM3 := zh (HM2.out.below hB); clear hB hq0 hp5 hb0)
 have hx3 := HX3.out.lt
 have HN4 := zh (Bx.new (ext own1 w2.heap.size 9) w3 #[.int .u64 (last : Int)] 22)
 have H4 := zh (H3.out.alloc (.cells #[.int .u64 (last : Int)] 22))
 have HX4 := zh (HX3.out.alloc (.cells #[.int .u64 (last : Int)] 22))
 have HM4 := zh (HM3.out.alloc7 (.cells #[.int .u64 (last : Int)] 22))
 clear H3 HX3 HM3 H2 HX2 HM2 Htip
 generalize ext (ext own1 w2.heap.size 9) w3.heap.size 9 = own4 at *
 generalize w3.alloc (.cells #[.int .u64 (last : Int)] 22) = w4 at *
 generalize w3.heap.size = N2 at *
 have hb0 := HX4.out.c0
 have hq0 := H4.out.q0
 go_wp2_with (go_at_call 129; refine (others_w p w4).mono ?_; rintro e wd ⟨rfl, hwd⟩; have HWd := zh hwd; clear hwd)
 have HO := zh (show Bx (ext own4 w4.heap.size 9) wd w4.heap.size #[.pointer (some ⟨p, 0, none⟩)] 86 by rw [HWd.out]; exact Bx.new own4 w4 _ 86)
 have H6 := zh (show StAt (ext own4 w4.heap.size 9) wd i p q g t0 who0 (leadTo r 0) x o by rw [HWd.out, leadTo_zero]; exact H4.out.alloc _)
 have HX6 := zh (show Bx (ext own4 w4.heap.size 9) wd w.heap.size #[.pointer (some ⟨q, 0, none⟩)] 159 by rw [HWd.out]; exact HX4.out.alloc _)
 have HN6 := zh (show Bx (ext own4 w4.heap.size 9) wd N2 #[.int .u64 (last : Int)] 22 by rw [HWd.out]; exact HN4.out.alloc _)
 have HM6 := zh (show Mv (fun l => l = i ∨ l = 7) own w (ext own4 w4.heap.size 9) wd by rw [HWd.out]; exact HM4.out.alloc7 _)
 have hwd : w.heap.size < wd.heap.size := HX6.out.lt
 have hN2d := HN6.out.lt
 clear hb0 hq0 H4 HX4 HN4 HM4 HWd
 generalize ext own4 w4.heap.size 9 = own6 at *
 refine wpIn_wide.1 (others_loop (n := r.n) (id := r.id) Hn7.out ⟨HO.out.c0, H6.out.nd.cn, H6.out.nd.cid⟩ HO.out.lab HO.out.lt H6.out.nd.lt rfl rfl
  (fun k ow A => StAt ow A i p q g t0 who0 (leadTo r k) x o ∧ Mv (fun l => l = i ∨ l = 7) own w ow A ∧ Bx ow A w.heap.size #[.pointer (some ⟨q, 0, none⟩)] 159 ∧ Bx ow A N2 #[.int .u64 (last : Int)] 22)
  ?hp0 ?ho0 ?h00 ?a10 ?as0 ?bo0 ?do0)
 case as0 =>
  intro l k W K hK
  gi_wp2
  exact hK
 case hp0 =>
  rintro k ow A l o' ⟨h1, h3, h4, h5⟩ hl9 hll
  exact ⟨h1.put hl9 o', h3.putNew (by omega) o', h4.put (by omega) o', h5.put (by omega) o'⟩
 case ho0 =>
  rintro k ow A ⟨h1, h3, h4, h5⟩
  exact ⟨h1.nd.cn, h1.nd.cid⟩
 case h00 =>
  intro W hB
  exact ⟨H6.out.below hB, HM6.out.below hB, HX6.out.below hB, HN6.out.below hB⟩
 case bo0 =>
  rintro l k ow W ⟨h1, h3, h4, h5⟩ hk hm
  have hfm := otTo_mem hk
  have hf7 : otAt r.id r.n k < 7 := by have := Hn7.out; omega
  have Hs := zh (leadTo_succ r hk)
  have hb0 := h4.c0
  have hq0 := h1.q0
  have hn2 := h5.c0
  have H1 := zh h1
  have H3 := zh (And.intro h3 (And.intro h4 h5))
  have hf0 : (0 : Int) ≤ (otAt r.id r.n k : Int) := by omega
  have hf7i : (otAt r.id r.n k : Int) < 7 := by omega
  clear h1 h3 h4 h5 hm hfm hk
  generalize otAt r.id r.n k = f at *
  gi_wp2
  apply RegT.wpIn_region_T rfl _ 11 rfl (by kernel_rfl) (by kernel_rfl) (by rintro ⟨a, w, h⟩; exact h) RegT.Same RegT.Same.refl RegT.Same.trans
  ·
   iterate 6
    apply RegT.T_pure rfl rfl rfl
    · intro W hR; have h0 := hR.cell hb0; have h1 := hR.cell hq0; have h2 := hR.cell hn2; clear hR; go_simp; rfl
    simp only [List.set_cons_succ, List.set_cons_zero, Nat.reduceAdd]
   apply RegT.T_pure (v := .int .u64 (last1 : Int)) rfl rfl rfl
   · intro W hR; clear hR; go_simp
   simp only [List.set_cons_succ, List.set_cons_zero, Nat.reduceAdd]
   iterate 4
    apply RegT.T_pure rfl rfl rfl
    · intro W hR; clear hR; go_simp; rfl
    simp only [List.set_cons_succ, List.set_cons_zero, Nat.reduceAdd]
   refine RegT.T_tail (fun W1 hS hf0 => ?_)
   have hS1 := RegT.Same.trans _ _ _ (same_drew W) hS
   have hm1 : Mv (fun _ => False) ow W ow W1 := Mv.same0 hS1
   have h1 := H1.out.mv hm1 id id
   have kn := h1.nd.cnext hf7
   have km := h1.nd.cmt hf7
   have fn := h1.nd.frozen (20 + f * 2)
   have fm := h1.nd.frozen (20 + f * 2 + 1)
   have hmw : Mv (fun l => l = i) ow W1 ow ((W1.setCell ⟨p, 20 + f * 2, none⟩ (.int .u64 (last1 : Int))).setCell ⟨p, 20 + f * 2 + 1, none⟩ (.int .u64 0)) := (Mv.set (L := fun l => l = i) (a := ⟨p, 20 + f * 2, none⟩) h1.nd.op _).trans (Mv.set (L := fun l => l = i) (a := ⟨p, 20 + f * 2 + 1, none⟩) h1.nd.op _)
   have hmw2 := (hm1.mono fun l e => e.elim).trans hmw
   have HF := zh (show StAt ow ((W1.setCell ⟨p, 20 + f * 2, none⟩ (.int .u64 (last1 : Int))).setCell ⟨p, 20 + f * 2 + 1, none⟩ (.int .u64 0)) i p q g t0 who0 (leadTo r (k + 1)) x o from by
    have h2 := (h1.setp (20 + f * 2) (.int .u64 (last1 : Int)) ({ leadTo r k with next := fun j => if j = f then r.last + 1 else (leadTo r k).next j } : RS.Rf) (by rw [Hl1.out]; exact set_next _ _ hf7 _) rfl rfl rfl).setp (20 + f * 2 + 1) (.int .u64 0) ({ ({ leadTo r k with next := fun j => if j = f then r.last + 1 else (leadTo r k).next j } : RS.Rf) with mt := fun j => if j = f then 0 else ({ leadTo r k with next := fun j => if j = f then r.last + 1 else (leadTo r k).next j } : RS.Rf).mt j } : RS.Rf) (set_mt _ _ hf7 0) rfl rfl rfl
    rw [Hs.out] at h2
    exact h2)
   have HMw := zh hmw2
   have hi7 := h1.nd.hi
   clear hS hf0 hS1 hm1 h1 hb0 hq0 hn2 hmw hmw2
   simp only [List.drop_succ_cons, List.drop_zero]
   go_wp2
   exact ⟨ow, ⟨HF.out, H3.out.1.trans (HMw.out.mono fun l e => .inl e), H3.out.2.1.mv HMw.out (by omega), H3.out.2.2.mv HMw.out (by omega)⟩, HMw.out.mono fun l e => by rw [e]; omega⟩
  · rfl
  · kernel_rfl
 case do0 =>
  rintro W ow ⟨h1, h3, h4, h5⟩ hm hl9 hD
  rw [leadTo_all] at h1
  have H7 := zh h1
  have HX7 := zh h4
  have HM7 := zh h3
  have HK7 : Hid (Marks ow w [wd.heap.size] W) := zh ⟨by simp, fun D hm => by rw [List.mem_singleton] at hm; subst hm; exact ⟨by omega, hl9, hD⟩⟩
  have hb0 := h4.c0
  have Hnb := zh (Hb.out.lead0 hM)
  have hdB : W.heap[wd.heap.size]? = some (.deferred (some [])) := hD
  have Hadd := zh (stadd_w ow i p q g t0 who0 r.lead0 x o W h1 (2 * M + 2) Hnb.out Hx.out.1 Hx.out.2.1 Hx.out.2.2.1 Hx.out.2.2.2 [] none 0 0 ⟨none, 0, rfl, nilPtB⟩ (by decide))
  have hi7 := h1.nd.hi
  clear h1 h3 h4 h5 hm hD hdB hl9
  go_upto_region 7 with (go_at_call 108; refine (Hadd.out).mono ?_; rintro e w8 ⟨rfl, own8, x8, h8, hx8, hm8⟩; have H8 := zh h8; have HX8 := zh (HX7.out.mv hm8 (by omega)); have HK8 := zh (HK7.out.mv hm8 (by omega)); have HM8 := zh (HM7.out.trans hm8); have Hx8 := zh hx8; clear h8 hm8 hx8 hb0)
  have hb0 := HX8.out.c0
  have Hpu := zh (pulse_w own8 i p q g t0 who0 (r.lead0.add []) x8 (r.lead0.addO o []) w8 H8.out Hb.out.T2)
  clear HX7 HM7 HK7 H7 Hadd
  go_upto_region 8 with (go_at_call 112; refine (Hpu.out).mono ?_; rintro e w9 ⟨⟨v, rfl⟩, h9, hm9⟩; have H9 := zh h9; have HX9 := zh (HX8.out.mv hm9 (by omega)); have HK9 := zh (HK8.out.mv hm9 (by omega)); have HM9 := zh (HM8.out.trans (hm9.mono fun l e => .inl e)); clear h9 hm9 hb0)
  have hb0 := HX9.out.c0
  have Hnb2 := zh ((Hnb.out.add (d := []) (by omega) (by decide)).pulse)
  have Hsee := zh (see_w own8 i p q g t0 who0 (r.lead0.add []).pulse x8 (r.lead0.addO o []) w9 H9.out (2 * M + 2 + 1) Hnb2.out)
  clear HX8 HM8 HK8 H8 Hpu
  go_upto_region 9 with (go_at_call 109; refine (Hsee.out).mono ?_; rintro e w10 ⟨⟨v, rfl⟩, own10, x10, h10, hA10, hm10⟩; have H10 := zh h10; have HA10 := zh hA10; have HX10 := zh (HX9.out.mv hm10 (by omega)); have HK10 := zh (HK9.out.mv hm10 (by omega)); have HM10 := zh (HM9.out.trans (hm10.mono fun l e => .inl e)); clear h10 hm10 hA10 hb0)
  have hb0 := HX10.out.c0
  have Hlb := zh (show ((r.lead0.add []).pulse).last ≤ 2 * M + 2 + 1 by show r.base + (r.es ++ [(r.term, [])]).length ≤ _; have := Hb.out.base; have := Hb.out.len; simp; omega)
  have Hups := zh (updates_w own10 i p q g t0 who0 r.lead1 x10 (r.lead0.addO o []) w10 H10.out (2 * M + 2 + 1) (Hnb2.out.see Hlb.out) (by show o.send.length ≤ 900; omega) (by show o.need.length ≤ 900; omega))
  clear HX9 HM9 HK9 H9 Hsee
  go_wp2_with (go_at_call 110; refine (Hups.out).mono ?_; rintro e w11 ⟨⟨v, rfl⟩, own11, x11, h11, hA11, hm11⟩; have H11 := zh h11; have HA11 := zh hA11; have HK11 := zh (HK10.out.mv hm11 (by decide)); have HM11 := zh (HM10.out.trans (hm11.mono fun l e => .inr e)); clear h11 hm11 hA11 hb0)
  rw [← HQ.out]
  show LeavesInM Fence.wide 0 Try.prog Try.f116 _ _ ([wd.heap.size].map mark) .returning w11
  exact leaves_marks rfl own11 w (fun A => StAt own11 A i p q g t0 who0 (r.lead o).1 x11 (r.lead o).2 ∧ Mv (fun l => l = i ∨ l = 7) own w own11 A) (fun A D ⟨h1, h2⟩ hD h9 => ⟨h1.put h9 _, h2.putNew hD _⟩) (fun A ⟨h1, h2⟩ => ⟨⟨_, rfl⟩, own11, x11, h1, by rw [HA11.out.2.1, HA10.out.2.1]; exact Hx8.out, h2⟩) _ w11 HK11.out ⟨H11.out, HM11.out⟩
end
end Go.Proofs.Yteellfgiejnigaa
