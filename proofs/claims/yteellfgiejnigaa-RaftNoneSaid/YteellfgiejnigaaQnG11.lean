/- A step sends to all. -/
import Derived.Test.YteellfgiejnigaaQnG10
namespace Go.Proofs.Yteellfgiejnigaa
open Go.ChangeShapes Go.WideShapes Go.ChangeAt Go.RowKit
set_option linter.unusedVariables false
attribute [local go_sem] Oper.semAt_some
section
variable {own own' : Own} {w w' : World} {i p q g t0 : Nat} {who0 : Int} {r : RS.Rf} {x : Ov} {o : RS.Ou} {M : Nat}
theorem update_w (own : Own) (i p q g t0 : Nat) (who0 : Int) (r : RS.Rf) (x : Ov) (o : RS.Ou) (w : World) (h : StAt own w i p q g t0 who0 r x o) (M : Nat) (hb : Nb M r) (f : Nat) (hf : f < 7) (hs : o.send.length ≤ 1000) (hn : o.need.length ≤ 1000) :
    Calls Try.prog 130 #[.pointer (some ⟨q, 0, none⟩), .int .i64 (f : Int)] w fun e w' => (∃ v, e = .returned v) ∧ Stp own w (fun l => l = 7) i p q g t0 who0 r x (r.update o f) w' := by
  by_cases hnx : r.next f ≤ r.base
  · exact update_need_w own i p q g t0 who0 r x o w h M hb f hf hnx hn
  · exact update_send_w own i p q g t0 who0 r x o w h M hb f hf hnx (by omega)
theorem otTo_mem {id n k : Nat} (hk : k < (otTo id n).length) : otAt id n k < n := by
  unfold otAt
  rw [List.getD_eq_getElem?_getD, List.getElem?_eq_getElem hk]
  have : (otTo id n)[k] ∈ otTo id n := List.getElem_mem hk
  have := (List.mem_filter.1 this).1
  simpa using this
theorem otTo_len (id n : Nat) : (otTo id n).length ≤ n := by
  have := List.length_filter_le (fun i => decide (i ≠ id)) (List.range n)
  rwa [List.length_range] at this
/-- So many are told. -/
def fo (r : RS.Rf) (f : RS.Ou → Nat → RS.Ou) (o : RS.Ou) (k : Nat) : RS.Ou := ((otTo r.id r.n).take k).foldl f o
theorem fo_succ (r : RS.Rf) (f : RS.Ou → Nat → RS.Ou) (o : RS.Ou) {k : Nat} (hk : k < (otTo r.id r.n).length) : fo r f o (k + 1) = f (fo r f o k) (otAt r.id r.n k) := by
  unfold fo
  rw [List.take_succ_eq_append_getElem hk, List.foldl_append, otAt, List.getD_eq_getElem?_getD, List.getElem?_eq_getElem hk]
  rfl
theorem fo_all (r : RS.Rf) (f : RS.Ou → Nat → RS.Ou) (o : RS.Ou) : fo r f o (otTo r.id r.n).length = r.others.foldl f o := by
  unfold fo
  rw [List.take_length]
  rfl
theorem fo_len (r : RS.Rf) (f : RS.Ou → Nat → RS.Ou) (o : RS.Ou) (hf : ∀ o j, (f o j).send.length ≤ o.send.length + 1 ∧ (f o j).need.length ≤ o.need.length + 1) : ∀ k, k ≤ (otTo r.id r.n).length → (fo r f o k).send.length ≤ o.send.length + k ∧ (fo r f o k).need.length ≤ o.need.length + k := by
  intro k
  induction k with
  | zero => intro _; exact ⟨by simp [fo], by simp [fo]⟩
  | succ k ih =>
    intro hk
    have h := ih (by omega)
    rw [fo_succ r f o (by omega)]
    have := hf (fo r f o k) (otAt r.id r.n k)
    omega
theorem put_len (r : RS.Rf) (o : RS.Ou) (j : Nat) (x : RS.Nt) : (r.put o j x).send.length ≤ o.send.length + 1 ∧ (r.put o j x).need.length ≤ o.need.length + 1 := by
  unfold RS.Rf.put
  simp
theorem update_len (r : RS.Rf) (o : RS.Ou) (j : Nat) : (r.update o j).send.length ≤ o.send.length + 1 ∧ (r.update o j).need.length ≤ o.need.length + 1 := by
  unfold RS.Rf.update
  split
  · simp
  · exact put_len _ _ _ _
theorem StAt.put (h : StAt own w i p q g t0 who0 r x o) {l : Nat} (hl : own l = 9) (o' : Obj) : StAt own (w.putObj l o') i p q g t0 who0 r x o := h.mv (L := fun l => l = 9) (Mv.put (L := fun l => l = 9) hl o') (by have := h.nd.hi; omega) (by decide)
theorem Mv.putNew {L : Nat → Prop} (h : Mv L own w own' w') {l : Nat} (hl : w.heap.size ≤ l) (o' : Obj) : Mv L own w own' (w'.putObj l o') :=
  ⟨⟨h.t.os, h.t.tape, h.t.output, by simpa [World.putObj] using h.t.size, fun b hb hn => (World.putObj_heap_other (by omega)).trans (h.t.block b hb hn)⟩, h.lab⟩
set_option maxRecDepth 100000 in
set_option maxHeartbeats 1000000 in
theorem updates_w (own : Own) (i p q g t0 : Nat) (who0 : Int) (r : RS.Rf) (x : Ov) (o : RS.Ou) (w : World) (h : StAt own w i p q g t0 who0 r x o) (M : Nat) (hb : Nb M r) (hs : o.send.length ≤ 900) (hn : o.need.length ≤ 900) :
    Calls Try.prog 110 #[.pointer (some ⟨q, 0, none⟩)] w fun e w' => (∃ v, e = .returned v) ∧ Stp own w (fun l => l = 7) i p q g t0 who0 r x (r.updates o) w' := by
  have hm0 := Mv.alloc own w (.cells #[.pointer (some ⟨q, 0, none⟩)] 159) 9
  have H1 := Lib.hid (h.mv hm0 id id)
  have HM1 := Lib.hid (hm0.weak (L := fun l => l = 7) (L' := fun l => l = 7))
  have HN1 := Lib.hid (heap_alloc_new w (.cells #[.pointer (some ⟨q, 0, none⟩)] 159))
  have H91 := Lib.hid (ext_ge (own := own) (n := w.heap.size) (l := 9) (Nat.le_refl _))
  have Hb := Lib.hid hb
  have Hn7 := Lib.hid hb.n7
  obtain ⟨w1, hw1⟩ : ∃ w1, w.alloc (.cells #[.pointer (some ⟨q, 0, none⟩)] 159) = w1 := ⟨_, rfl⟩
  rw [hw1] at H1 HM1 HN1
  have HW := Lib.hid hw1
  clear h hm0 hw1 hb
  generalize ext own w.heap.size 9 = own1 at *
  have hb0 : w1.cell? ⟨w.heap.size, 0, none⟩ = some (.pointer (some ⟨q, 0, none⟩)) := one_cell HN1.out
  have hq0 := H1.out.q0
  refine (callsIn_wide (n := 0)).1 (callsIn_of_wp_marks Try.func110 rfl trivial ?_ rfl)
  refine wpIn_wide.2 ?_
  simp only [Try.ntmps110, List.size_toArray, List.length_cons, List.length_nil, Nat.reduceAdd, Nat.reduceSub, Array.replicate_succ, Array.replicate_zero, List.push_toArray, List.append_toArray, List.nil_append, List.cons_append]
  generalize hQ : bodyPostM Fence.wide 0 Try.prog _ _ = Q
  have HQ := Lib.hid hQ
  clear hQ
  go_upto_region 1 with (fail)
  rw [HW.out]
  go_wp2_with (go_at_call 129; refine (others_w p w1).mono ?_; rintro e w2 ⟨rfl, hw2⟩; have HW2 := Lib.hid hw2; clear hw2)
  have hm2 : Mv (fun _ => False) own1 w1 (ext own1 w1.heap.size 9) w2 := by rw [HW2.out]; exact Mv.alloc own1 w1 _ 9
  have hN2 : w2.heap[w1.heap.size]? = some (.cells #[.pointer (some ⟨p, 0, none⟩)] 86) := by rw [HW2.out]; exact heap_alloc_new w1 _
  have hs2 : w2.heap.size = w1.heap.size + 1 := by rw [HW2.out]; simp
  have H2 := Lib.hid (H1.out.mv hm2 id id)
  have HM2 := Lib.hid (HM1.out.trans (hm2.weak (L := fun l => l = 7) (L' := fun l => l = 7)))
  have h92 : ext own1 w1.heap.size 9 w1.heap.size = 9 := ext_ge (Nat.le_refl _)
  have hNlt := (Array.getElem?_eq_some_iff.1 HN1.out).1
  have h91 : ext own1 w1.heap.size 9 w.heap.size = 9 := (ext_lt hNlt).trans H91.out
  have hb2 : w2.heap[w.heap.size]? = some (.cells #[.pointer (some ⟨q, 0, none⟩)] 159) := (hm2.same hNlt id).trans HN1.out
  have Hb2 := Lib.hid hb2
  have H92 := Lib.hid h91
  have hpl := H2.out.nd.lt
  have hN2l := (Array.getElem?_eq_some_iff.1 hN2).1
  have hww : w.heap.size ≤ w1.heap.size := by omega
  clear hq0 hb0 hm2 hb2 h91
  generalize ext own1 w1.heap.size 9 = own2 at *
  refine wpIn_wide.1 (others_loop (id := r.id) Hn7.out ⟨one_cell hN2, H2.out.nd.cn, H2.out.nd.cid⟩ h92 hN2l hpl rfl rfl
    (fun k ow A => ∃ x', StAt ow A i p q g t0 who0 r x' (fo r r.update o k) ∧ Adds x x' ∧ Mv (fun l => l = 7) own w ow A ∧ A.heap[w.heap.size]? = some (.cells #[.pointer (some ⟨q, 0, none⟩)] 159) ∧ ow w.heap.size = 9)
    ?hp0 ?ho0 ?h00 ?a10 ?as0 ?bo0 ?do0)
  case as0 =>
    intro l k W K hK
    gi_wp2
    exact hK
  case hp0 =>
    rintro k ow A l o' ⟨x', h1, h2, h3, h4, h5⟩ hl9 hll
    exact ⟨x', h1.put hl9 o', h2, h3.putNew (by omega) o', (World.putObj_heap_other (by omega)).trans h4, h5⟩
  case ho0 =>
    rintro k ow A ⟨x', h1, h2, h3, h4, h5⟩
    exact ⟨h1.nd.cn, h1.nd.cid⟩
  case h00 =>
    intro W hB
    exact ⟨x, H2.out.below hB, Adds.refl x, HM2.out.trans (Mv.of_below hB 9), (hB.block _ (by omega)).trans Hb2.out, (ext_lt (by omega)).trans H92.out⟩
  case bo0 =>
    rintro l k ow W ⟨x', h1, h2, h3, h4, h5⟩ hk hm
    have hlen := fo_len r r.update o (update_len r) k (by omega)
    have hol := otTo_len r.id r.n
    have hfm := otTo_mem hk
    have Hup := Lib.hid (update_w ow i p q g t0 who0 r x' (fo r r.update o k) W h1 M Hb.out (otAt r.id r.n k) (by have := Hn7.out; omega) (by have := Hn7.out; omega) (by have := Hn7.out; omega))
    have Hs := Lib.hid (fo_succ r r.update o hk)
    have hb0 := one_cell h4
    have H3 := Lib.hid (And.intro h2 (And.intro h3 (And.intro h4 h5)))
    clear h1 h2 h3 h4 h5 hm hlen hol hfm hk
    generalize otAt r.id r.n k = f at *
    gi_wp2_with (refine ⟨trivial, rfl, ?_⟩; gi_at_call 130; refine (CallsIn.inRound l (callsIn_wide.2 Hup.out)).mono ?_; rintro e W5 ⟨⟨v, rfl⟩, own5, x5, h5, a5, m5⟩; have H5 := Lib.hid h5; have HA5 := Lib.hid a5; have HM5 := Lib.hid m5; clear h5 a5 m5)
    have hlt := (Array.getElem?_eq_some_iff.1 H3.out.2.2.1).1
    refine ⟨own5, ⟨x5, by rw [Hs.out]; exact H5.out, H3.out.1.trans HA5.out, H3.out.2.1.trans HM5.out, (HM5.out.same hlt (by rw [H3.out.2.2.2]; decide)).trans H3.out.2.2.1, (HM5.out.lab _ hlt).trans H3.out.2.2.2⟩, HM5.out.mono fun l e => by rw [e]; decide⟩
  case do0 =>
    rintro W ow ⟨x', h1, h2, h3, h4, h5⟩ hm hl9 hD
    rw [fo_all] at h1
    have H5 := Lib.hid h1
    have HA5 := Lib.hid h2
    have HM5 := Lib.hid h3
    have HD := Lib.hid hD
    clear h1 h2 h3 h4 h5 hm hD
    go_wp2
    rw [← HQ.out]
    refine ⟨by simp, .inl ⟨_, _, rfl, run_takeDeferred HD.out, ?_⟩⟩
    exact ⟨_, results_none rfl _ _ _, ⟨_, rfl⟩, ow, x', H5.out.put hl9 _, HA5.out, HM5.out.putNew (by omega) _⟩
end
end Go.Proofs.Yteellfgiejnigaa
